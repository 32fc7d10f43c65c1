/-
  ChFrame, CjMa, CjFr, CjL, CjB2, CjK, CjKd, CjW, ChN, CkW, CjR, CkP, CkA, CkC, CkC2, TgF3, TgSm, CkB, without what the claim does not reach.
-/
import Derived.Test.YtbnafbdhomdcoaaGreatDoorZm3
import Derived.Test.YtbnafbdhomdcoaaGreatDoorZm1
import Derived.Test.YtbnafbdhomdcoaaGreatDoorCards
import Derived.Test.YtbnafbdhomdcoaaGreatDoorTie
import Derived.ProofKit
import Derived.OpenShut
import Derived.Deep.DeepHandedRow
import Derived.Lib.LaidTab
import Derived.Stop.LaidErr
import Derived.ChangeSame
import Derived.Deep.Slices
import Derived.Deep.Fields
import Derived.WideKeyArgs
import Derived.Test.YtbnafbdhomdcoaaGreatDoorZm4
import Derived.SliceStrings
import Derived.Laws.Entries
import Derived.Test.YtbnafbdhomdcoaaGreatDoorZTgEn
import Derived.Test.YtbnafbdhomdcoaaGreatDoorZm2
import Derived.Test.YtbnafbdhomdcoaaGreatDoorZTgR
import Derived.Deep.QuietTactic
import Derived.BigQuiet
import Derived.Test.YtbnafbdhomdcoaaGreatDoorZTgSp
import Derived.WalkSpells
import Derived.Lib.AppendStr
namespace Go.Proofs.YtbnafbdhomdcoaaGreatDoor
open Go.ChangeShapes Go.WideShapes Go.ChangeAt Go.RowKit Go.Deep
open Go.ChangeMaps (open_string shut_string)
theorem zoY:ownKnob Tryz.prog.godebug=none:=by kernel_rfl
theorem ztD:Tryz.prog.globalNamed "turnpike/octet.signs" =some 0:=by kernel_rfl
theorem zpP:(Tryz.prog.globals[0]?).map (·.type)=some 137:=by kernel_rfl
theorem zpZ:Tryz.prog.cellsOf 137=4:=by kernel_rfl
theorem ztr:Tryz.prog.cellsOf 136=1:=by kernel_rfl
theorem ztq:(Tryz.prog.globals[2]?).map (·.type)=some 203:=by kernel_rfl
theorem ztn:Tryz.prog.cellsOf 203=20:=by kernel_rfl
theorem zuF:Tryz.prog.cellsOf 191=1:=by kernel_rfl
def zg5:List (String×DataW Unit):=[("math/bits.deBruijn32tab",Rows.laid_math_bits_deBruijn32tab),("math/bits.deBruijn64tab",Rows.laid_math_bits_deBruijn64tab),("internal/strconv.uint64pow10",Rows.laid_internal_strconv_uint64pow10),("unicode/utf8.acceptRanges",Rows.laid_unicode_utf8_acceptRanges),("turnpike/octet.signs",Rows.laid_turnpike_octet_signs),("unicode/utf8.first",Rows.laid_unicode_utf8_first)]
theorem zqG:zg5.filter (fun x=>x.2.handleName?.isSome)=[]:=by kernel_rfl
theorem zoe {W:World} (h:laidMetH Tryz.prog zg5 W):laidMet Tryz.prog zg5 W:=by
 unfold laidMetH at h;rw[zqG] at h;exact h
def zvd:List Int:=[1,10,100,1000,10000,100000,1000000,10000000,100000000,1000000000,10000000000,100000000000,1000000000000,10000000000000,100000000000000,1000000000000000,10000000000000000,100000000000000000,1000000000000000000,10000000000000000000]
theorem zvh:zvd=Lib.pow10Tab:=by decide +kernel
theorem zve {W:World} (h:laidMetH Tryz.prog zg5 W) (hs:W.ShapedOpen Tryz.prog):zdF W:=by
 have h1:=(zoe h).tail.tail;have h2:=h1.tail.tail;have hp:Lib.TabIs Tryz.prog W "internal/strconv.uint64pow10" .u64 zvd:=Lib.tabIs_of_head (zs:=zvd) (rest:=[("unicode/utf8.acceptRanges",Rows.laid_unicode_utf8_acceptRanges),("turnpike/octet.signs",Rows.laid_turnpike_octet_signs),("unicode/utf8.first",Rows.laid_unicode_utf8_first)]) zuI ztq Tryz.underlying203 Tryz.underlying191 zuF ztn h1;have ht:Lib.TabIs Tryz.prog W "turnpike/octet.signs" .u32 zgZ:=Lib.tabIs_of_head (zs:=zgZ) (rest:=[("unicode/utf8.first",Rows.laid_unicode_utf8_first)]) ztD zpP Tryz.underlying137 Tryz.underlying136 ztr zpZ h2;have hm:=cell_of_shapedOpen_int (g:=1) (zero:=#[.int .i64 0]) (t:=3) hs (of_decide_eq_true (by kernel_rfl)) (by kernel_rfl) rfl (by kernel_rfl) (by kernel_rfl) Tryz.underlying3;have hc:∀k:Nat,k<4→W.cell? ⟨0,k,none⟩=some (.int .u32 (zgZ.getD k 0)):=fun k hk=>ht.cell ztD k hk
 have lt_of:∀(b k:Nat) (v:Value),W.cell? ⟨b,k,none⟩=some v→b<W.heap.size:=fun b k v h=>by
  rcases Nat.lt_or_ge b W.heap.size with h1|h1
  ·exact h1
  ·simp[World.cell?,Array.getElem?_eq_none h1] at h
 refine ⟨⟨?_,hc,hm⟩,zvh▸hp⟩;have h0:=lt_of _ _ _ (hc 0 (by omega));obtain ⟨m,hm⟩:=hm;have h1:=lt_of _ _ _ hm;have h3:=lt_of _ _ _ (hp.cell zuI 0 (by decide))
 omega
def zfD (cs:Array Value):Obj→Obj
 | .cells _ t frozen=>.cells cs t frozen
 |o=>o
def zjS (l:List Nat):Array Value:=(l.map fun (n:Nat)=>Value.int .u8 (n:Int)).toArray
noncomputable def ziW (os:Os):World:=
 {World.holding Tryz.prog os ⟨#[],#[],[]⟩ with heap:=((((((World.holding Tryz.prog os ⟨#[],#[],[]⟩).heap.modify 0 (zfD #[.int .u32 0,.int .u32 67071226,.int .u32 3355443198,.int .u32 1476395007])).modify 2 (zfD (zvd.map fun z=>Value.int .u64 z).toArray)).modify 3 (zfD (zjS Go.Pinned.utf8FirstZ))).modify 4 (zfD (zjS ([128,191,160,191,128,159,144,191,128,143]++List.replicate 22 0)))).modify 5 (zfD (zjS [0,1,28,2,29,14,24,3,30,22,20,15,25,17,4,8,31,27,13,23,21,19,16,7,26,12,18,6,11,5,10,9]))).modify 6 (zfD (zjS [0,1,56,2,57,49,28,3,61,58,42,50,38,29,17,4,62,47,59,36,45,43,51,22,53,39,33,30,24,18,12,5,63,55,48,27,60,41,37,16,46,35,44,21,52,32,23,11,54,26,40,15,34,20,31,10,25,14,19,9,13,8,7,6]))}
theorem zuw (os:Os) (args:Array Value):laidMet Tryz.prog zg5 ((ziW os).forCall (fun _ _=>0) ⟨#[],args,[]⟩).memory:=
 laidMet_of_run' 8 (by kernel_rfl) (by kernel_rfl)
section
variable {H:Type} {enc:TypeId×Value→H} {P:Program}
theorem zlI {f:Func} {s:ChangeSpec} {apart fresh handsOn again:Bool} {W W':World} {args:Array Value} {v:Value} {ds gs:List (DataW H)} {before pa pv:List MemPlace}
  (hW:DataW.Whole enc P f.params.toList s.vars apart W args.toList ds gs before)
  (hres:∀(b:Nat) (sp:Nat→Bool) (hd:Bool),DataW.TrodAll enc P W' b sp hd f.resultTypes.toList (v.resultList f.resultTypes.size) (s.fn H (ds++gs)).results [])
  (hargs:∀sp:Nat→Bool,(∀p∈before,sp p.block=true)→DataW.TrodAll enc P W' 0 sp true f.params.toList args.toList (s.fn H (ds++gs)).args pa)
  (hvars:∀sp:Nat→Bool,(∀p∈before,sp p.block=true)→DataW.TrodVars enc P W' sp s.vars (s.fn H (ds++gs)).vars pv)
  (hps:before=pa++pv) (hb:Below W.heap.size W W')
  (hok:∀(j:Nat) (t:TypeId) (r:Value),f.resultTypes[j]?=some t→(v.resultList f.resultTypes.size)[j]?=some r→Value.okWide P W' .any 0 t r):
  s.post enc P f apart fresh handsOn again W args v W':=by
 have hlt:∀p∈before,p.block<W.heap.size:=fun p hp=>hW.lt p hp
 have hold:∀p∈before,(fun b=>decide (b<W.heap.size)) p.block=true:=fun p hp=>by simpa using hlt p hp
 refine ⟨ds,gs,before,[],pa,pv,hW,hres _ _ _,hargs _ hold,hvars _ hold,World.keptBut_mono (fun p hp=>⟨hp,?_⟩) (hb.frame (·∈before)),fun _=>?_⟩
 ·rw[hps,List.mem_append] at hp
  exact Or.inr hp
 ·obtain ⟨_,_,_,_,_,hz,hn⟩:=hW
  refine ⟨hok,_,_,([]++pa)++pv,⟨[]++pa,pv,trodAll_append (hargs _ (fun _ _=>rfl)) (hres _ _ _),hvars _ (fun _ _=>rfl),rfl,?_,?_⟩,?_⟩
  ·intro b off hp
   have hin:MemPlace.cell b off∈before:=by rw[hps];simpa using hp
   rw[hb.frozen (hlt _ hin)];exact hz b off hin
  ·intro ha
   have:=hn ha;rw[hps] at this
   simpa using this
  ·intro p hp _
   rw[hps]
   simpa using hp
end
theorem zn2:laidOutB Tryz.prog=true:=by kernel_rfl
theorem stays {H:Type} {enc:TypeId×Value→H} {t:TypeId} (hr:Tryz.prog.readableRec t=true) (hrow:decide (t<Tryz.prog.types.size)=true) {W W':World} {v:Value} {d:DataW H} {ps:List MemPlace}
  (h:DataW.Trod enc Tryz.prog W 0 (fun _=>true) true t v d ps) (hb:Below W.heap.size W W') (hlt:∀x∈ps,x.block<W.heap.size) {sp:Nat→Bool} (hsp:∀x∈ps,sp x.block=true):
  DataW.Trod enc Tryz.prog W' 0 sp true t v d ps:=
 WideElems.Trod_stays zn2 hr (of_decide_eq_true hrow) h (fun x hx=>hb.same (hlt x hx)) hsp
theorem zmL {n:Int} (h:(Lit.int .i64 n).wf=true):-9223372036854775808≤n∧n≤9223372036854775807:=bounds_i64 h
section
variable {H:Type} {enc:TypeId×Value→H} {P:Program} {w:World} {base:Nat} {spare:Nat→Bool} {held:Bool}
theorem zia {t e:TypeId} {fs:Array Field} {fuel:Nat} {cs:List Value} {x:DataW H×List MemPlace} (ht:P.underlying t=some (.slice e)) (he:P.underlying e=some (.struct fs))
  (hone:oneCellFields P fs=true) (hC:P.cellsOf e=fs.size) (h:DataW.trod enc P w base spare held fuel t cs=some x):
  (cs=[.slice none 0 0]∧x=(.nil,[]))∨
  ∃(a:Addr) (len cap m:Nat) (D:Nat→DataW H) (Pl:Nat→List MemPlace),cs=[.slice (some a) len cap]∧base≤a.block∧len≤cap∧cap≤maxLen∧m=(if spare a.block then cap else len)∧
   x=(.slice ((List.range len).map D) ((List.range (m - len)).map fun j=>D (len+j)),MemPlace.row a (m*fs.size)++(List.range m).flatMap Pl)∧
   ∀i,i<m→∃(ys:List (DataW H×List MemPlace)) (n:Nat),D i= .agg (ys.map (·.1))∧Pl i=ys.flatMap (·.2)∧ys.length=fs.size∧
    ∀(j:Nat) (f:Field),fs[j]?=some f→∃(v:Value) (y:DataW H×List MemPlace),w.cell? (a.add (i*fs.size+j))=some v∧ys[j]?=some y∧DataW.trod enc P w base spare held n f.type [v]=some y:=by
 rcases open_slice ht h with h0|⟨a,len,cap,m,n,D,Pl,hcs,hb,hl,hm,hmm,hx,hi⟩
 ·exact .inl h0
 ·refine .inr ⟨a,len,cap,m,D,Pl,hcs,hb,hl,hm,hmm,by rw[hC] at hx;exact hx,fun i him=>?_⟩
  obtain ⟨cs',hc,ht'⟩:=hi i him;rw[hC] at hc;obtain ⟨ys,n',hn',hy,hlen,hyl,hf⟩:=DataW.trod_struct he ht';obtain ⟨_,hcl,hat⟩:=World.cells?_some hc;simp only[Prod.mk.injEq] at hy;refine ⟨ys,n',hy.1,hy.2,hyl,fun j f hj=>?_⟩;obtain ⟨ho,hk⟩:=hone_of hone j f hj;have hjl:j<fs.size:=(Array.getElem?_eq_some_iff.1 hj).1;have hcell:=hat j hjl;have hv:cs'[j]?=some (cs'[j]'(by omega)):=List.getElem?_eq_getElem (by omega);have h1:=hf j f hj;rw[ho,hk] at h1;have hone':(cs'.drop j).take 1=[cs'[j]'(by omega)]:=by
   rw[List.drop_eq_getElem_cons (by omega)]
   rfl
  rw[hone'] at h1;have hys:ys[j]?=some (ys[j]'(by omega)):=List.getElem?_eq_getElem (by omega);refine ⟨_,_,?_,hys,h1.trans hys⟩;rw[←Go.Deep.add_add,hcell,hv]
end
section
variable {H:Type} {enc:TypeId×Value→H} {W:World}
theorem zkY {w:World} {a:Addr} {v:Value} (h:w.cell? a=some v):a.spot=none:=World.cell?_spot h
theorem zsx {a:Addr} {j:Nat} (h:(a.add j).spot=none):a.add j=⟨a.block,a.off+j,none⟩:=by
 unfold Addr.add at *
 split at h
 ·rename_i h0
  simp only[h0];obtain ⟨b,o,s⟩:=a;simp at h;simp[h]
 ·simp_all
theorem zla:∀(l:List (ByteArray×ByteArray)),Rows.uptoBulkAll (l.map fun p=>DataW.agg (H:=H) [.lit (.string p.1.data.toList),.lit (.string p.2.data.toList)])=zbT l
 |[]=>rfl
 |p::l=>by
  simp only[List.map_cons,Rows.uptoBulkAll,Rows.uptoBulk,zla l,zbT,List.sum_cons,size_eq]
  omega
end
end Go.Proofs.YtbnafbdhomdcoaaGreatDoor
namespace Go.Proofs.YtbnafbdhomdcoaaGreatDoor
open Go.RowKit Go.Shelf Go.Lib
abbrev Ma:=zY×Option Addr×Nat
def maV (x:Ma):List Value:=[.int .i64 x.1.kind,.string x.1.name,.string x.1.value,.slice x.2.1 x.1.list.length x.2.2,.int .i64 x.1.n]
def zbU (l:List Ma):List Value:=l.flatMap maV
def zvv (W:World) (x:Ma):Prop:=Row W x.2.1 (x.1.list.map .string)∧x.1.list.length≤x.2.2
theorem zor:∀{l:List Ma} {k:Nat} {x:Ma},l[k]?=some x→∀j,j<5→(zbU l)[k*5+j]?=(maV x)[j]?
 |[],_,_,h,_,_=>by simp at h
 |y::l,0,x,h,j,hj=>by
  have e:y=x:=by simpa using h
  subst e;show (maV y++zbU l)[0*5+j]?=_;rw[Nat.zero_mul,Nat.zero_add,List.getElem?_append_left (by show j<5;exact hj)]
 |y::l,k+1,x,h,j,hj=>by
  have h':l[k]?=some x:=by simpa using h
  show (maV y++zbU l)[(k+1)*5+j]?=_;rw[List.getElem?_append_right (by show 5≤_;omega),show (k+1)*5+j - (maV y).length=k*5+j by show (k+1)*5+j - 5=_;omega];exact zor h' j hj
theorem zna (l:List Ma):(zbU l).length=l.length*5:=by
 induction l with
 |nil=>rfl
 |cons y l ih=>
  show (maV y++zbU l).length=_;rw[List.length_append,ih,List.length_cons];show 5+_=_
  omega
theorem zQ.mid {D:Nat→Prop} {w:World} {B:Option Addr} {l:List Ma} {k:Nat} {x:Ma} (h:zQ D w B (zbU l)) (hx:l[k]?=some x):
  ∃b off,B=some ⟨b,off,none⟩∧b<w.heap.size∧¬D b∧∀j v,(maV x)[j]?=some v→w.cell? ⟨b,off+k*5+j,none⟩=some v:=by
 have hl:0<(zbU l).length:=by
  rw[zna];have:=(List.getElem?_eq_some_iff.1 hx).1
  omega
 obtain ⟨b,off,e,hb,hd,hc⟩:=h hl;refine ⟨b,off,e,hb,hd,fun j v hv=>?_⟩;have hj:j<5:=(List.getElem?_eq_some_iff.1 hv).1;rw[Nat.add_assoc];exact hc _ _ ((zor hx j hj).trans hv)
end Go.Proofs.YtbnafbdhomdcoaaGreatDoor
namespace Go.Proofs.YtbnafbdhomdcoaaGreatDoor
open Go.RowKit Go.Shelf Go.Lib
open Go.ChangeShapes Go.WideShapes Go.Deep
theorem zfX {W:World} {a:Addr} {xs:List Value} (h:∀i v,xs[i]?=some v→W.cell? (a.add i)=some v):Row W (some a) xs:=fun hpos=>by
 have h0:=h 0 _ (List.getElem?_eq_getElem hpos);have e0:a.add 0=a:=by simp[Addr.add]
 rw[e0] at h0;have hsp:=zkY h0;obtain ⟨b,o,s⟩:=a;simp only at hsp;subst hsp;refine ⟨b,o,rfl,?_,fun j v hv=>?_⟩
 ·rcases Nat.lt_or_ge b W.heap.size with h1|h1
  ·exact h1
  ·simp[World.cell?,Array.getElem?_eq_none h1] at h0
 ·have:=h j v hv
  rw[←zsx (zkY this)];exact this
theorem zut {H:Type} (l:List ByteArray):Rows.uptoBulkAll (l.map fun s=>DataW.lit (H:=H) (.string s.data.toList))=(l.map fun m=>m.size+1).sum:=by
 induction l with
 |nil=>rfl
 |cons x l ih=>
  simp only[List.map_cons,Rows.uptoBulkAll,Rows.uptoBulk,ih,List.sum_cons,size_eq]
theorem zpq {H:Type} {enc:TypeId×Value→H} {W:World} {fuel:Nat} {cs:List Value} {x:DataW H×List MemPlace} (hf:DataW.trod enc Tryz.prog W 0 (fun _=>true) true fuel 22 cs=some x):
  ∃(A:Option Addr) (c:Nat) (l:List ByteArray),cs=[.slice A l.length c]∧Row W A (l.map .string)∧l.length≤c∧(l.map fun m=>m.size+1).sum+1≤Rows.uptoBulk x.1:=by
 rcases open_strings Tryz.underlying22 Tryz.underlying9 (by kernel_rfl) hf with ⟨hcs,hx⟩|⟨a,len,cap,ss,hcs,_,hl,hm,hss,hx,hcell,_⟩
 ·subst hcs
  subst hx;exact ⟨none,0,[],rfl,Row.nil _ _,Nat.le_refl _,by simp[Rows.uptoBulk]⟩
 ·subst hcs
  simp only[if_true] at hss;have hlen:(ss.take len).length=len:=by rw[List.length_take];omega
  refine ⟨some a,cap,ss.take len,by rw[hlen],zfX fun i v hv=>?_,by rw[hlen];exact hl,?_⟩
  ·rw[List.getElem?_map,Option.map_eq_some_iff] at hv
   obtain ⟨x,hx1,rfl⟩:=hv;have hi:i<ss.length:=by
    have:=zky hx1;rw[List.length_take] at this
    omega
   rw[hcell i hi];have hx2:ss[i]?=some x:=by
    rw[List.getElem?_take] at hx1
    split at hx1
    ·exact hx1
    ·cases hx1
   rw[List.getD_eq_getElem?_getD,hx2]
   rfl
  ·rw[hx]
   simp only[Rows.uptoBulk];have e:∀m:List ByteArray,strs (H:=H) m=m.map fun s=>DataW.lit (H:=H) (.string s.data.toList):=fun _=>rfl
   rw[e,zut]
   omega
set_option maxRecDepth 100000 in
theorem zh8 {H:Type} {enc:TypeId×Value→H} {W:World} {fuel:Nat} {cs:List Value} {x:DataW H×List MemPlace} (hf:DataW.trod enc Tryz.prog W 0 (fun _=>true) true fuel 25 cs=some x):
  ∃(A:Option Addr) (c:Nat) (l:List Fl),cs=[.slice A l.length c]∧Row W A (zj l)∧l.length≤c∧zbT l+1≤Rows.uptoBulk x.1:=by
 rcases zia Tryz.underlying25 Tryz.underlying59 (by kernel_rfl) (by kernel_rfl) hf with ⟨hcs,hx⟩|⟨a,len,cap,m,D,Pl,hcs,_,hl,hm,hmm,hx,hcell⟩
 ·subst hcs
  subst hx;exact ⟨none,0,[],rfl,Row.nil _ _,Nat.le_refl _,by simp[zbT,Rows.uptoBulk]⟩
 ·subst hcs
  simp only[if_true] at hmm;subst hmm;have hall:∀i,i<m→∃q:Fl,D i= .agg [.lit (.string q.1.data.toList),.lit (.string q.2.data.toList)]∧W.cell? (a.add (i*2))=some (.string q.1)∧W.cell? (a.add (i*2+1))=some (.string q.2):=by
   intro i hi;obtain ⟨ys,n,hD,_,hyl,hj⟩:=hcell i hi;obtain ⟨v0,y0,hc0,hy0,ht0⟩:=hj 0 _ rfl;obtain ⟨v1,y1,hc1,hy1,ht1⟩:=hj 1 _ rfl;obtain ⟨s0,hs0,rfl,_⟩:=DataW.trod_string Tryz.underlying9 ht0;obtain ⟨s1,hs1,rfl,_⟩:=DataW.trod_string Tryz.underlying9 ht1;simp at hs0 hs1;subst hs0 hs1;have hys:ys=[(.lit (.string s0.data.toList),[]),(.lit (.string s1.data.toList),[])]:=by
    match ys,hyl with
    |[x0,x1],_=>
     simp at hy0 hy1;rw[hy0,hy1]
   refine ⟨(s0,s1),?_,hc0,hc1⟩;rw[hD,hys]
   rfl
  obtain ⟨Q,hQ⟩:=choose_lt (α:=Fl) (p:=fun i (q:Fl)=>D i= .agg [.lit (.string q.1.data.toList),.lit (.string q.2.data.toList)]∧W.cell? (a.add (i*2))=some (.string q.1)∧W.cell? (a.add (i*2+1))=some (.string q.2)) hall;have hget:∀(i:Nat) (q:Fl),((List.range len).map Q)[i]?=some q→i<len∧Q i=q:=by
   intro i q hq;have hi:i<len:=by simpa using (List.getElem?_eq_some_iff.1 hq).1
   simp[hi] at hq;exact ⟨hi,hq⟩
  refine ⟨some a,m,(List.range len).map Q,by rw[List.length_map,List.length_range],zfX fun j v hv=>?_,by rw[List.length_map,List.length_range];exact hl,?_⟩
  ·obtain ⟨i,x,y,hi,hj⟩:=ztd hv
   obtain ⟨hil,hq⟩:=hget _ _ hi;obtain ⟨_,h1,h2⟩:=hQ i (by omega);rw[hq] at h1 h2
   rcases hj with ⟨rfl,rfl⟩|⟨rfl,rfl⟩
   ·exact h1
   ·exact h2
  ·have e1:(List.range len).map D=((List.range len).map Q).map fun q=>DataW.agg (H:=H) [.lit (.string q.1.data.toList),.lit (.string q.2.data.toList)]:=by
    rw[List.map_map];exact List.map_congr_left fun i hi=>(hQ i (by have:=List.mem_range.1 hi;omega)).1
   rw[hx];simp only[Rows.uptoBulk,e1,zla]
   omega
def zgp (m:zY):Nat:=m.name.size+m.value.size+(m.list.map fun s=>s.size+1).sum+6
def zho (n:Int):Prop:=-9223372036854775808≤n∧n≤9223372036854775807
theorem zvK {m:zY} (h:zgp m≤1048576) (hk:zho m.kind) (hn:zho m.n):zaY m:=by
 unfold zgp at h;exact ⟨by omega,by omega,by omega,hk.1,hk.2,hn.1,hn.2⟩
set_option maxRecDepth 100000 in
theorem zsn {H:Type} {enc:TypeId×Value→H} {W:World} {fuel:Nat} {cs:List Value} {x:DataW H×List MemPlace} (h:DataW.trod enc Tryz.prog W 0 (fun _=>true) true fuel 24 cs=some x):
  ∃r:Ma,cs=maV r∧zvv W r∧(zho r.1.kind∧zho r.1.n)∧zgp r.1≤Rows.uptoBulk x.1:=by
 obtain ⟨ys,n,hn,hy,hlen,hyl,hfs⟩:=DataW.trod_struct Tryz.underlying24 h;have hc:Tryz.prog.cellsOf 24=5:=by kernel_rfl
 have c0:Tryz.prog.cellsOf 3=1:=by kernel_rfl
 have c1:Tryz.prog.cellsOf 9=1:=by kernel_rfl
 have c2:Tryz.prog.cellsOf 22=1:=by kernel_rfl
 rw[hc] at hlen
 match cs,hlen with
 |[x0,x1,x2,x3,x4],_=>
 have hyn:ys.length=5:=hyl
 match ys,hyn with
 |[y0,y1,y2,y3,y4],_=>
 have g0:DataW.trod enc Tryz.prog W 0 (fun _=>true) true n 3 [x0]=some y0:=by
  have h0:DataW.trod enc Tryz.prog W 0 (fun _=>true) true n 3 (List.take (Tryz.prog.cellsOf 3) (List.drop 0 [x0,x1,x2,x3,x4]))=some y0:=hfs 0 _ rfl;rw[c0] at h0;exact h0
 have g1:DataW.trod enc Tryz.prog W 0 (fun _=>true) true n 9 [x1]=some y1:=by
  have h0:DataW.trod enc Tryz.prog W 0 (fun _=>true) true n 9 (List.take (Tryz.prog.cellsOf 9) (List.drop 1 [x0,x1,x2,x3,x4]))=some y1:=hfs 1 _ rfl;rw[c1] at h0;exact h0
 have g2:DataW.trod enc Tryz.prog W 0 (fun _=>true) true n 9 [x2]=some y2:=by
  have h0:DataW.trod enc Tryz.prog W 0 (fun _=>true) true n 9 (List.take (Tryz.prog.cellsOf 9) (List.drop 2 [x0,x1,x2,x3,x4]))=some y2:=hfs 2 _ rfl;rw[c1] at h0;exact h0
 have g3:DataW.trod enc Tryz.prog W 0 (fun _=>true) true n 22 [x3]=some y3:=by
  have h0:DataW.trod enc Tryz.prog W 0 (fun _=>true) true n 22 (List.take (Tryz.prog.cellsOf 22) (List.drop 3 [x0,x1,x2,x3,x4]))=some y3:=hfs 3 _ rfl;rw[c2] at h0;exact h0
 have g4:DataW.trod enc Tryz.prog W 0 (fun _=>true) true n 3 [x4]=some y4:=by
  have h0:DataW.trod enc Tryz.prog W 0 (fun _=>true) true n 3 (List.take (Tryz.prog.cellsOf 3) (List.drop 4 [x0,x1,x2,x3,x4]))=some y4:=hfs 4 _ rfl;rw[c0] at h0;exact h0
 obtain ⟨n0,e0,r0,k0⟩:=DataW.trod_int Tryz.underlying3 g0;obtain ⟨s1,e1,r1,_⟩:=DataW.trod_string Tryz.underlying9 g1;obtain ⟨s2,e2,r2,_⟩:=DataW.trod_string Tryz.underlying9 g2;obtain ⟨A3,k3c,l3,e3,q3,d3,b3⟩:=zpq g3;obtain ⟨n4,e4,r4,k4⟩:=DataW.trod_int Tryz.underlying3 g4;simp at e0 e1 e2 e3 e4;subst e0 e1 e2 e3 e4;refine ⟨(⟨n0,s1,s2,l3,n4⟩,A3,k3c),rfl,⟨q3,d3⟩,⟨zmL k0,zmL k4⟩,?_⟩;unfold zgp;rw[hy,r0,r1,r2,r4];simp only[List.map_cons,List.map_nil,Rows.uptoBulk,Rows.uptoBulkAll,size_eq]
 omega
set_option maxRecDepth 100000 in
theorem zrX {H:Type} {enc:TypeId×Value→H} {W:World} {fuel:Nat} {cs:List Value} {x:DataW H×List MemPlace} (h:DataW.trod enc Tryz.prog W 0 (fun _=>true) true fuel 27 cs=some x):
  ∃(r:Rq) (A:Option Addr) (c:Nat) (B:Option Addr) (d:Nat),cs=[.string r.method,.string r.target,.int .i64 r.major,.int .i64 r.minor,.slice A r.fields.length c,.string r.body,.slice B r.trailers.length d]∧(Row W A (zj r.fields)∧Row W B (zj r.trailers))∧(r.fields.length≤c∧r.trailers.length≤d)∧r.method.size+r.target.size+zbT r.fields+r.body.size+zbT r.trailers+8≤Rows.uptoBulk x.1:=by
 obtain ⟨ys,n,hn,hy,hlen,hyl,hfs⟩:=DataW.trod_struct Tryz.underlying27 h;have hc:Tryz.prog.cellsOf 27=7:=by kernel_rfl
 have c0:Tryz.prog.cellsOf 9=1:=by kernel_rfl
 have c1:Tryz.prog.cellsOf 3=1:=by kernel_rfl
 have c2:Tryz.prog.cellsOf 25=1:=by kernel_rfl
 rw[hc] at hlen
 match cs,hlen with
 |[x0,x1,x2,x3,x4,x5,x6],_=>
 have hyn:ys.length=7:=hyl
 match ys,hyn with
 |[y0,y1,y2,y3,y4,y5,y6],_=>
 have g0:DataW.trod enc Tryz.prog W 0 (fun _=>true) true n 9 [x0]=some y0:=by
  have h0:DataW.trod enc Tryz.prog W 0 (fun _=>true) true n 9 (List.take (Tryz.prog.cellsOf 9) (List.drop 0 [x0,x1,x2,x3,x4,x5,x6]))=some y0:=hfs 0 _ rfl;rw[c0] at h0;exact h0
 have g1:DataW.trod enc Tryz.prog W 0 (fun _=>true) true n 9 [x1]=some y1:=by
  have h0:DataW.trod enc Tryz.prog W 0 (fun _=>true) true n 9 (List.take (Tryz.prog.cellsOf 9) (List.drop 1 [x0,x1,x2,x3,x4,x5,x6]))=some y1:=hfs 1 _ rfl;rw[c0] at h0;exact h0
 have g2:DataW.trod enc Tryz.prog W 0 (fun _=>true) true n 3 [x2]=some y2:=by
  have h0:DataW.trod enc Tryz.prog W 0 (fun _=>true) true n 3 (List.take (Tryz.prog.cellsOf 3) (List.drop 2 [x0,x1,x2,x3,x4,x5,x6]))=some y2:=hfs 2 _ rfl;rw[c1] at h0;exact h0
 have g3:DataW.trod enc Tryz.prog W 0 (fun _=>true) true n 3 [x3]=some y3:=by
  have h0:DataW.trod enc Tryz.prog W 0 (fun _=>true) true n 3 (List.take (Tryz.prog.cellsOf 3) (List.drop 3 [x0,x1,x2,x3,x4,x5,x6]))=some y3:=hfs 3 _ rfl;rw[c1] at h0;exact h0
 have g4:DataW.trod enc Tryz.prog W 0 (fun _=>true) true n 25 [x4]=some y4:=by
  have h0:DataW.trod enc Tryz.prog W 0 (fun _=>true) true n 25 (List.take (Tryz.prog.cellsOf 25) (List.drop 4 [x0,x1,x2,x3,x4,x5,x6]))=some y4:=hfs 4 _ rfl;rw[c2] at h0;exact h0
 have g5:DataW.trod enc Tryz.prog W 0 (fun _=>true) true n 9 [x5]=some y5:=by
  have h0:DataW.trod enc Tryz.prog W 0 (fun _=>true) true n 9 (List.take (Tryz.prog.cellsOf 9) (List.drop 5 [x0,x1,x2,x3,x4,x5,x6]))=some y5:=hfs 5 _ rfl;rw[c0] at h0;exact h0
 have g6:DataW.trod enc Tryz.prog W 0 (fun _=>true) true n 25 [x6]=some y6:=by
  have h0:DataW.trod enc Tryz.prog W 0 (fun _=>true) true n 25 (List.take (Tryz.prog.cellsOf 25) (List.drop 6 [x0,x1,x2,x3,x4,x5,x6]))=some y6:=hfs 6 _ rfl;rw[c2] at h0;exact h0
 obtain ⟨s0,e0,r0,_⟩:=DataW.trod_string Tryz.underlying9 g0;obtain ⟨s1,e1,r1,_⟩:=DataW.trod_string Tryz.underlying9 g1;obtain ⟨n2,e2,r2,k2⟩:=DataW.trod_int Tryz.underlying3 g2;obtain ⟨n3,e3,r3,k3⟩:=DataW.trod_int Tryz.underlying3 g3;obtain ⟨A4,k4c,l4,e4,q4,d4,b4⟩:=zh8 g4;obtain ⟨s5,e5,r5,_⟩:=DataW.trod_string Tryz.underlying9 g5;obtain ⟨A6,k6c,l6,e6,q6,d6,b6⟩:=zh8 g6;simp at e0 e1 e2 e3 e4 e5 e6;subst e0 e1 e2 e3 e4 e5 e6;refine ⟨⟨s0,s1,n2,n3,l4,s5,l6⟩,A4,k4c,A6,k6c,rfl,⟨q4,q6⟩,⟨d4,d6⟩,?_⟩;rw[hy,r0,r1,r2,r3,r5];simp only[List.map_cons,List.map_nil,Rows.uptoBulk,Rows.uptoBulkAll,size_eq]
 omega
end Go.Proofs.YtbnafbdhomdcoaaGreatDoor
namespace Go.Proofs.YtbnafbdhomdcoaaGreatDoor
theorem zeq {α:Type} {l:List α} {k:Nat} {x:α} (h:l[k]?=some x):l.drop k=x::l.drop (k+1):=by
 obtain ⟨hk,rfl⟩:=List.getElem?_eq_some_iff.1 h;exact List.drop_eq_getElem_cons hk
theorem zoj {l:List ByteArray} {k:Nat} {s:ByteArray} (hk:l[k]?=some s):zcw (l.take k) (l.drop k)=((zbn s&&!zb5 (l.take k) s)&&zcw (l.take (k+1)) (l.drop (k+1))):=by
 have e:l.take (k+1)=l.take k++[s]:=by
  obtain ⟨h,rfl⟩:=List.getElem?_eq_some_iff.1 hk;exact List.take_succ_eq_append_getElem h
 rw[zeq hk,e]
 rfl
theorem zml (l:List ByteArray):zcw (l.take l.length) (l.drop l.length)=true:=by
 rw[List.drop_length]
 rfl
theorem znr {α:Type} {P:α→Bool} {l:List α} {k:Nat} {x:α} (h:l[k]?=some x):(l.drop k).all P=(P x&&(l.drop (k+1)).all P):=by
 rw[zeq h,List.all_cons]
theorem zjV {α:Type} (P:α→Bool) (l:List α):(l.drop l.length).all P=true:=by
 rw[List.drop_length]
 rfl
def zap (s:ByteArray) (k:Nat):List UInt8:=34::((s.data.toList.take k).flatMap fun c=>if c=34∨c=92 then [92,c] else [c])
theorem zin (s:ByteArray):zap s 0=[34]:=by
 simp[zap]
theorem znx {s:ByteArray} {k:Nat} {c:UInt8} (h:s.data.toList[k]?=some c):zap s (k+1)=zap s k++(if c=34∨c=92 then [92,c] else [c]):=by
 obtain ⟨hk,rfl⟩:=List.getElem?_eq_some_iff.1 h;unfold zap;rw[List.take_succ_eq_append_getElem hk,List.flatMap_append];simp
theorem zjg (s:ByteArray):zcM s=⟨(zap s s.size++[34]).toArray⟩:=by
 unfold zcM zap;have e:s.data.toList.take s.size=s.data.toList:=List.take_of_length_le (Nat.le_refl _);rw[e]
theorem zjr (s:ByteArray) (k:Nat):(zap s k).length≤2*k+1:=by
 have h:∀l:List UInt8,(l.flatMap fun c=>if c=34∨c=92 then [92,c] else [c]).length≤2*l.length:=by
  intro l
  induction l with
  |nil=>exact Nat.le_refl _
  |cons c l ih=>
   rw[List.flatMap_cons,List.length_append,List.length_cons]
   split<;>simp only[List.length_cons,List.length_nil]<;>omega
 have h1:=h (s.data.toList.take k);have h2:=List.length_take_le k s.data.toList;unfold zap;rw[List.length_cons]
 omega
theorem zkh {x:Int} (h0:-9223372036854775808≤x) (h1:x≤9223372036854775807):IntKind.i64.wrap x=x:=IntWalk.i64_in _ ⟨h0,h1⟩
theorem zm5 (a:Nat) (h:a<9223372036854775808):(BitVec.ofInt 64 (a:Int)).toNat=a:=by
 rw[BitVec.ofInt_natCast,BitVec.toNat_ofNat];exact Nat.mod_eq_of_lt (by omega)
theorem zwz (a v:Nat) (ha:a<1073741824) (hv:v<64):bits .or .i64 ((a:Int)*64) (v:Int)=((a*64+v:Nat):Int):=by
 have e:((a:Int)*64)=((a*64:Nat):Int):=by omega
 have h2:(a*64)|||v=a*64+v:=by
  have:=Nat.two_pow_add_eq_or_of_lt (i:=6) (b:=v) (by omega) a;rw[Nat.mul_comm a 64];exact this.symm
 rw[e];show IntKind.i64.wrap (((BitVec.ofInt 64 ((a*64:Nat):Int))|||(BitVec.ofInt 64 (v:Int))).toNat:Int)=_;rw[BitVec.toNat_or,zm5 _ (by omega),zm5 _ (by omega),h2];exact zkh (by omega) (by omega)
theorem zrr (a t:Nat) (ha:a<1073741824) (ht:t<30):bits .and .i64 (a:Int) ((2:Int) ^ t - 1)=((a % 2 ^ t:Nat):Int):=by
 have h1:0<2 ^ t:=Nat.pow_pos (by omega);have h3:2 ^ t≤2 ^ 30:=Nat.pow_le_pow_right (by omega) (by omega);have e:((2:Int) ^ t - 1)=((2 ^ t - 1:Nat):Int):=by
  have:((2 ^ t:Nat):Int)=(2:Int) ^ t:=by simp
  omega
 rw[e];show IntKind.i64.wrap (((BitVec.ofInt 64 (a:Int))&&& (BitVec.ofInt 64 ((2 ^ t - 1:Nat):Int))).toNat:Int)=_;rw[BitVec.toNat_and,zm5 _ (by omega),zm5 _ (by omega),Nat.and_two_pow_sub_one_eq_mod];have:a % 2 ^ t<2 ^ t:=Nat.mod_lt _ h1;exact zkh (by omega) (by omega)
theorem zqF (n m:Nat):(n:Int) / 2 ^ (m - 8) % 256=((UInt8.ofNat (n / 2 ^ (m - 8))).toNat:Int):=by
 have e2:(n:Int) / 2 ^ (m - 8)=((n / 2 ^ (m - 8):Nat):Int):=by simp
 rw[e2,UInt8.toNat_ofNat'];generalize n / 2 ^ (m - 8)=x
 omega
inductive Way (p:Nat) (st:B6) (c:UInt8):Prop
 |stop (h1:0<st.fill) (h2:p=0) (h:zav p st c=none)
 |sign (h1:st.fill=0) (h2:0≤zaI c) (h:zav p st c=some ⟨st.n*64+zm c,st.hv+6,0,st.out⟩)
 |one (h1:st.fill=0) (h2:zaI c<0) (h3:c=61) (h4:2≤p) (h5:st.n % 2 ^ (st.hv % 8)=0) (h:zav p st c=some ⟨st.n,st.hv,1,st.out⟩)
 |mask (h1:st.fill=0) (h2:zaI c<0) (h3:c=61) (h4:2≤p) (h5:¬st.n % 2 ^ (st.hv % 8)=0) (h:zav p st c=none)
 |early (h1:st.fill=0) (h2:zaI c<0) (h3:c=61) (h4:¬2≤p) (h:zav p st c=none)
 |none0 (h1:st.fill=0) (h2:zaI c<0) (h3:¬c=61) (h:zav p st c=none)
 |two (h1:st.fill=1) (h2:zaI c<0) (h3:c=61) (h4:p=3) (h:zav p st c=some ⟨st.n,st.hv,2,st.out⟩)
 |late (h1:st.fill=1) (h2:zaI c<0) (h3:c=61) (h4:¬p=3) (h5:¬p=0) (h:zav p st c=none)
 |more (h1:¬st.fill=1) (h0:¬st.fill=0) (h2:zaI c<0) (h3:c=61) (h5:¬p=0) (h:zav p st c=none)
 |none1 (h0:¬st.fill=0) (h2:zaI c<0) (h3:¬c=61) (h5:¬p=0) (h:zav p st c=none)
 |sign1 (h0:¬st.fill=0) (h2:0≤zaI c) (h3:¬c=61) (h5:¬p=0) (h:zav p st c=none)
theorem zwB (p:Nat) (st:B6) (c:UInt8):Way p st c:=by
 have h61:=zg4
 by_cases hf:st.fill=0
 ·have hp:¬(0<st.fill∧p=0):=by omega
  by_cases hv:0≤zaI c
  ·exact .sign hf hv (by unfold zav;rw[if_neg hp,if_pos ⟨hv,hf⟩])
  ·have hn:¬(0≤zaI c∧st.fill=0):=fun g=>hv g.1
   have h1:¬st.fill=1:=by omega
   by_cases hc:c=61
   ·by_cases h2:2≤p
    ·by_cases hm:st.n % 2 ^ (st.hv % 8)=0
     ·exact .one hf (by omega) hc h2 hm (by unfold zav;rw[if_neg hp,if_neg hn,if_pos ⟨hc,hf,h2,hm⟩])
     ·exact .mask hf (by omega) hc h2 hm (by unfold zav;rw[if_neg hp,if_neg hn,if_neg (fun g=>hm g.2.2.2),if_neg (fun g=>h1 g.2.1)])
    ·exact .early hf (by omega) hc h2 (by unfold zav;rw[if_neg hp,if_neg hn,if_neg (fun g=>h2 g.2.2.1),if_neg (fun g=>h1 g.2.1)])
   ·exact .none0 hf (by omega) hc (by unfold zav;rw[if_neg hp,if_neg hn,if_neg (fun g=>hc g.1),if_neg (fun g=>hc g.1)])
 ·by_cases hp:p=0
  ·exact .stop (by omega) hp (by unfold zav;rw[if_pos ⟨by omega,hp⟩])
  ·have hp':¬(0<st.fill∧p=0):=fun g=>hp g.2
   have hn:¬(0≤zaI c∧st.fill=0):=fun g=>hf g.2
   by_cases hc:c=61
   ·have hv:zaI c<0:=by rw[hc,h61];omega
    by_cases h1:st.fill=1
    ·by_cases h3:p=3
     ·exact .two h1 hv hc h3 (by unfold zav;rw[if_neg hp',if_neg hn,if_neg (fun g=>hf g.2.1),if_pos ⟨hc,h1,h3⟩])
     ·exact .late h1 hv hc h3 hp (by unfold zav;rw[if_neg hp',if_neg hn,if_neg (fun g=>hf g.2.1),if_neg (fun g=>h3 g.2.2)])
    ·exact .more h1 hf hv hc hp (by unfold zav;rw[if_neg hp',if_neg hn,if_neg (fun g=>hf g.2.1),if_neg (fun g=>h1 g.2.1)])
   ·by_cases hv:0≤zaI c
    ·exact .sign1 hf hv hc hp (by unfold zav;rw[if_neg hp',if_neg hn,if_neg (fun g=>hf g.2.1),if_neg (fun g=>hc g.1)])
    ·exact .none1 hf (by omega) hc hp (by unfold zav;rw[if_neg hp',if_neg hn,if_neg (fun g=>hf g.2.1),if_neg (fun g=>hc g.1)])
theorem zjb (n m:Nat) (h:8≤m):zc7 n m=UInt8.ofNat (n / 2 ^ (m - 8))::zc7 n (m - 8):=by
 rw[zc7,if_neg (by omega)]
theorem zkB (n m:Nat) (h:m<8):zc7 n m=[]:=by
 rw[zc7,if_pos h]
theorem zxg {l:List UInt8} {k:Nat} {c:UInt8} {st:B6} (h:l[k]?=some c):zbR (l.drop k) k st=match zav (k % 4) st c with
  |none=>none
  |some s=>zbR (l.drop (k+1)) (k+1) (zbj (k % 4) s):=by
 obtain ⟨hk,rfl⟩:=List.getElem?_eq_some_iff.1 h;rw[List.drop_eq_getElem_cons hk,zbR]
 rfl
end Go.Proofs.YtbnafbdhomdcoaaGreatDoor
namespace Go.Proofs.YtbnafbdhomdcoaaGreatDoor
open Go.RowKit Go.Shelf Go.Lib
theorem zmK (s:ByteArray) {k:Nat} (h:k<s.size):s.data.toList[k]?=some s[k]:=by
 rw[Array.getElem?_toList];exact Array.getElem?_eq_getElem h
theorem zkN (s:ByteArray) {k:Nat} (h:k<s.size):zap s (k+1)=zap s k++(if (bt s k=34∨bt s k=92) then [92,s[k]] else [s[k]]):=by
 rw[znx (zmK s h)];have e:(s[k]=34∨s[k]=92)↔(bt s k=34∨bt s k=92):=by
  rw[←zE h]
  constructor
  ·rintro (h|h)
   ·left;rw[h];rfl
   ·right;rw[h];rfl
  ·rintro (h|h)
   ·left;apply UInt8.toNat_inj.1;have:(34:UInt8).toNat=34:=rfl;omega
   ·right;apply UInt8.toNat_inj.1;have:(92:UInt8).toNat=92:=rfl;omega
 congr 1
 by_cases g:bt s k=34∨bt s k=92
 ·rw[if_pos g,if_pos (e.2 g)]
 ·rw[if_neg g,if_neg (fun x=>g (e.1 x))]
set_option maxRecDepth 20000 in
set_option maxHeartbeats 2000000 in
theorem zrE (s:ByteArray) (w:World) (hf:zcb s=true) (hs:s.size≤1099511627776):
  Calls Tryz.prog 108 #[.string s] w fun e w'=>e= .returned (.tuple #[.string (zcM s),.int .i64 0])∧Below w.heap.size w w':=by
 have HF:=hid (fun w=>zd7 s w (by unfold maxLen;omega));rw[hf] at HF;have HE:=hid (zjg s);have HZ:=hid (zin s);clear hf
 go_enter Tryz.func108,Tryz.ntmps108
 go_wp2_with fail
 refine (HF.out _).mono ?_;rintro e w1 ⟨rfl,rfl⟩;have hI0:Lib.IsBuilderF 145 5 w.heap.size w.heap.size (Lib.byteCells []) (w.alloc (.cells #[.pointer none,.slice none 0 0] 145)):=Lib.IsBuilderF.of (Lib.fresh_isBuilder 145 5 w)
 go_wp2_with fail
 refine (zcd w.heap.size w.heap.size _ _ _ hI0 (by rw[Lib.byteCells_length];simp) (by simp)).mono ?_;rintro e w2 ⟨rfl,h2,b2,_⟩;have hI:Lib.IsBuilderF 145 5 w.heap.size w.heap.size (Lib.byteCells (zap s 0)) w2:=.inr (by rw[HZ.out];exact h2);have hbw:Below w.heap.size w w2:=((Below.refl _ w).alloc (Nat.le_refl _) _).trans b2;have hsz:w.heap.size<w2.heap.size:=by have:=b2.size;simp at this;omega
 clear h2 b2 hI0
 go_wp2
 go_loopw [12] (fun v wr=>∃k:Nat,k≤s.size∧v= .int .i64 k∧Lib.IsBuilderF 145 5 w.heap.size w.heap.size (Lib.byteCells (zap s k)) wr∧Below w.heap.size w wr∧w.heap.size<wr.heap.size) (fun v _=>s.size - (RowKit.intOf v).toNat)
 case atStart=>exact ⟨0,by omega,rfl,hI,hbw,hsz⟩
 case round=>
  clear hI hbw hsz;obtain ⟨k,hk,rfl,hI,hbw,hsz⟩:=hrel;have hlen:=zjr s k
  by_cases hlt:k<s.size
  ·have hb:=@zE s k hlt
   have HQ:=hid (zkN s hlt);have hq:((bt s k==34)=true∧(bt s k=34∨bt s k=92))∨((bt s k==34)=false∧(bt s k==92)=true∧(bt s k=34∨bt s k=92))∨((bt s k==34)=false∧(bt s k==92)=false∧¬(bt s k=34∨bt s k=92)):=by
    by_cases h1:bt s k=34
    ·exact .inl ⟨by simpa using h1,.inl h1⟩
    ·by_cases h2:bt s k=92
     ·exact .inr (.inl ⟨by simpa using h1,by simpa using h2,.inr h2⟩)
     ·exact .inr (.inr ⟨by simpa using h1,by simpa using h2,fun g=>g.elim h1 h2⟩)
   have hcc:(s[k].toNat:Int)=bt s k:=hb
   rcases hq with ⟨q1,q3⟩|⟨q1,q2,q3⟩|⟨q1,q2,q3⟩
   case inr.inr=>
    have HQ2:=hid (show zap s (k+1)=zap s k++[s[k]] by rw[HQ.out,if_neg q3]);clear q3 HQ;generalize zap s k=acc at *
    go_wp2_with fail
    refine (zcd w.heap.size w.heap.size _ _ _ hI (by rw[Lib.byteCells_length];omega) (by have:=hbw.size;exact this)).mono ?_;rintro e w3 ⟨rfl,h3,b3,_⟩;have hI2:Lib.IsBuilderF 145 5 w.heap.size w.heap.size (Lib.byteCells (zap s (k+1))) w3:=.inr (by rw[HQ2.out,←zb7,hcc];exact h3);have hbw2:=hbw.trans b3;have hsz2:w.heap.size<w3.heap.size:=Nat.lt_of_lt_of_le hsz b3.size;clear h3 hI b3
    go_wp2
    go_roundw
    case rel=>exact ⟨k+1,by omega,by go_num,hI2,hbw2,hsz2⟩
    case measure=>simp[RowKit.intOf];omega
   all_goals
    have HQ2:=hid (show zap s (k+1)=zap s k++[92]++[s[k]] by rw[HQ.out,if_pos q3,List.append_assoc];rfl);clear q3 HQ;generalize zap s k=acc at *
    go_wp2_with fail
    refine (zcd w.heap.size w.heap.size _ _ _ hI (by rw[Lib.byteCells_length];omega) (by have:=hbw.size;exact this)).mono ?_;rintro e w3 ⟨rfl,h3,b3,_⟩;have hI2:Lib.IsBuilderF 145 5 w.heap.size w.heap.size (Lib.byteCells (acc++[92])) w3:=.inr (by rw[←zb7];exact h3);have hbw2:=hbw.trans b3;have hsz2:w.heap.size<w3.heap.size:=Nat.lt_of_lt_of_le hsz b3.size;clear h3 hI b3
    go_wp2_with fail
    refine (zcd w.heap.size w.heap.size _ _ _ hI2 (by rw[Lib.byteCells_length,List.length_append];simp only[List.length_cons,List.length_nil];omega) (by have:=hbw2.size;exact this)).mono ?_;rintro e w4 ⟨rfl,h4,b4,_⟩;have hI3:Lib.IsBuilderF 145 5 w.heap.size w.heap.size (Lib.byteCells (zap s (k+1))) w4:=.inr (by rw[HQ2.out,←zb7,hcc];exact h4);have hbw3:=hbw2.trans b4;have hsz3:w.heap.size<w4.heap.size:=Nat.lt_of_lt_of_le hsz2 b4.size;clear h4 hI2 b4
    go_wp2
    go_roundw
    case rel=>exact ⟨k+1,by omega,by go_num,hI3,hbw3,hsz3⟩
    case measure=>simp[RowKit.intOf];omega
  ·obtain rfl:k=s.size:=by omega
   generalize zap s s.size=acc at *
   go_wp2_with fail
   refine (zcd w.heap.size w.heap.size _ _ _ hI (by rw[Lib.byteCells_length];omega) (by have:=hbw.size;exact this)).mono ?_;rintro e w3 ⟨rfl,h3,b3,_⟩;have hI2:Lib.IsBuilderF 145 5 w.heap.size w.heap.size (Lib.byteCells (acc++[34])) w3:=.inr (by rw[←zb7];exact h3);have hbw2:=hbw.trans b3;clear h3 hI b3
   go_wp2_with fail
   refine (Tryz.Builder_String_any_k w.heap.size w.heap.size _ _ hI2 (by have:=hbw2.size;exact this)).mono ?_;rintro e w4 ⟨rfl,_,b4,_⟩;have HR:=hid HE.out
   go_wp2
   go_ret2
   exact ⟨by rw[HR.out];rfl,hbw2.trans b4⟩
def zil (o:Option (List UInt8)) (w:World) (e:Ending) (w':World):Prop:=∃(t:ByteArray) (i x:Int),e= .returned (.tuple #[.string t,.int .i64 i,.int .i64 x])∧(match o with|some l=>x=0∧t=⟨l.toArray⟩|none=>x=30)∧Below w.heap.size w w'
theorem zcc {l:List UInt8} {w w':World} {i:Int} (h:b64 l=none) (hb:Below w.heap.size w w'):zil (b64 l) w (.returned (.tuple #[.string ⟨#[]⟩,.int .i64 i,.int .i64 30])) w':=⟨_,_,_,rfl,by rw[h],hb⟩
theorem zfv {l o:List UInt8} {w w':World} (h:b64 l=some o) (hb:Below w.heap.size w w'):zil (b64 l) w (.returned (.tuple #[.string ⟨o.toArray⟩,.int .i64 0,.int .i64 0])) w':=⟨_,_,_,rfl,by rw[h];exact ⟨rfl,rfl⟩,hb⟩
theorem zvz (s:ByteArray) {k:Nat} (h:k<s.size):(s[k]=61)↔(bt s k=61):=by
 rw[←zE h]
 constructor
 ·intro g;rw[g];rfl
 ·intro g;apply UInt8.toNat_inj.1;have:(61:UInt8).toNat=61:=rfl;omega
theorem ziG (n m:Nat) (h:m≤24):(zc7 n m).length≤3:=by have:=ztm n m;omega
set_option maxRecDepth 20000 in
set_option maxHeartbeats 8000000 in
theorem zp2 (s:ByteArray) (w:World) (hs:s.size≤4194304):
  Calls Tryz.prog 106 #[.string s] w (zil (b64 s.data.toList) w):=by
 obtain ⟨i0,hi0,hz0,hz1,hz2⟩:=info_parts zcI;have HI:=hid (fun (w:World) (k:Nat)=>za2 zce (bt s k) w (zbS s k) (zdQ s k));unfold zce at HI
 go_enter Tryz.func106,Tryz.ntmps106
 go_wp2
 go_loopw [5,6,7,8,15] (fun v n hv f i wr=>∃(k:Nat) (st:B6),k≤s.size∧i= .int .i64 k∧n= .int .i64 st.n∧hv= .int .i64 st.hv∧f= .int .i64 st.fill∧zZ wr w.heap.size v st.out∧st.out.length≤3*k∧Hid (zbR (s.data.toList.drop k) k st=b64 s.data.toList)∧Hid (znt k st∧st.fill≤2)∧Below w.heap.size w wr) (fun _ _ _ _ i _=>s.size - (RowKit.intOf i).toNat)
 case atStart=>exact ⟨0,⟨0,0,0,[]⟩,Nat.zero_le _,rfl,rfl,rfl,rfl,World.ownsRow_nil _ _ _ _,Nat.zero_le _,hid (zwr _),hid ⟨znt.first,by decide⟩,Below.refl _ _⟩
 case round=>
  obtain ⟨k,⟨n,hv,f,out⟩,hk,rfl,rfl,rfl,rfl,hown,hol,HB,HO,hbw⟩:=hrel;dsimp only at *
  by_cases hlt:k<s.size
  ·have hb:=@zE s k hlt
   have hat:=zxg (st:=⟨n,hv,f,out⟩) (zmK s hlt);rw[HB.out] at hat;have HAT:=hid hat;obtain ⟨p,hp⟩:∃p:Nat,p=k % 4:=⟨_,rfl⟩;have hkp:(k:Int) % 4=(p:Int):=by omega
   have hp4:p<4:=by omega
   have hon:=HO.out.1.n;have hoh:=HO.out.1.hv;have hof:=HO.out.2;dsimp only at hon hoh hof;have hvz:hv≤18:=by omega
   have hnz:n<262144:=Nat.lt_of_lt_of_le hon (Nat.le_trans (Nat.pow_le_pow_right (by omega) hvz) (by decide));have HST:=hid (fun st' (h:zav (k % 4) ⟨n,hv,f,out⟩ s[k]=some st')=>HO.out.1.step h);have HNX:=hid (fun st' (h:zav (k % 4) ⟨n,hv,f,out⟩ s[k]=some st')=>HO.out.1.next h);have hfd:zaI s[k]=za7 zce (bt s k):=by unfold zaI;rw[hb]
   have HFI:=hid (zvz s hlt);have HP:=hid hp;clear hat HB HO hon hoh;have HW:=zwB p ⟨n,hv,f,out⟩ s[k];rw[hp] at HW;have hq0:za7 zce (bt s k)<64:=by rw[←hfd];exact (zeM _).2
   have hVal:=hid (show zaI s[k]=za7 zce (bt s k) from hfd);rw[show zce=(⟨#[65,66,67,68,69,70,71,72,73,74,75,76,77,78,79,80,81,82,83,84,85,86,87,88,89,90,97,98,99,100,101,102,103,104,105,106,107,108,109,110,111,112,113,114,115,116,117,118,119,120,121,122,48,49,50,51,52,53,54,55,56,57,43,47]⟩:ByteArray) from rfl] at hfd hq0 hVal;have HIK:=hid (fun w=>HI.out w k);generalize za7 (⟨#[65,66,67,68,69,70,71,72,73,74,75,76,77,78,79,80,81,82,83,84,85,86,87,88,89,90,97,98,99,100,101,102,103,104,105,106,107,108,109,110,111,112,113,114,115,116,117,118,119,120,121,122,48,49,50,51,52,53,54,55,56,57,43,47]⟩:ByteArray) (bt s k)=v at *;clear hfd hp
   rcases HW with ⟨h1,h2,h⟩|⟨h1,h2,h⟩|⟨h1,h2,h3,h4,h5,h⟩|⟨h1,h2,h3,h4,h5,h⟩|⟨h1,h2,h3,h4,h⟩|⟨h1,h2,h3,h⟩|⟨h1,h2,h3,h4,h⟩|⟨h1,h2,h3,h4,h5,h⟩|⟨h1,h0,h2,h3,h5,h⟩|⟨h0,h2,h3,h5,h⟩|⟨h0,h2,h3,h5,h⟩
   ·have HBN:=hid (show b64 s.data.toList=none by rw[HAT.out,h])
    dsimp only at h1;have hp0:p=0:=by rw[HP.out];exact h2
    subst hp0;clear h2 HAT HST HNX HFI hVal hq0 h;have hf1:decide ((0:Int)<(f:Int))=true:=decide_eq_true (by omega)
    go_wp2
    go_ret3
    exact zcc HBN.out hbw
   ·have HS:=hid (HST.out _ h)
    have HN:=hid (HNX.out _ h);have HBN:=hid (show b64 s.data.toList=zbR (s.data.toList.drop (k+1)) (k+1) (zbj (k % 4) ⟨n*64+zm s[k],hv+6,0,out⟩) by rw[HAT.out,h]);rw[←HP.out] at HS HBN;dsimp only at h1;subst h1;have hvv:v=((zm s[k]:Nat):Int):=by unfold zm;rw[hVal.out] at h2 ⊢;omega
    have hv64:zm s[k]<64:=by omega
    generalize zm s[k]=u at *;subst hvv;have hor:=zwz n u (by omega) hv64;have hn1:(n:Int)≤262143:=by omega
    have hv0:decide ((0:Int)≤(u:Int))=true:=decide_eq_true (by omega);clear h HAT HST HNX HFI hVal hq0 h2 hv64
    by_cases h3p:p=3
    ·subst h3p
     have HSF:=hid (show zbj 3 ⟨n*64+u,hv+6,0,out⟩=⟨0,0,0,out++zc7 (n*64+u) (hv+6)⟩ from rfl);rw[HSF.out] at HS HBN;have hn2:=HN.out;dsimp only at hn2;clear HSF HN HP
     go_wp2_with fail
     refine (HIK.out _).mono ?_;rintro e w1 ⟨rfl,rfl⟩
     go_wp2_with fail
     have hh24:hv+6≤24:=by omega
     clear hn2;have HEL:=hid (ziG (n*64+u) (hv+6) hh24);obtain ⟨xo,rfl⟩:∃xo:World,xo=wr:=⟨_,rfl⟩
     skip
     go_loopw [5,12] (fun v kk wx=>∃(m:Nat) (o:List UInt8),kk= .int .i64 ((m:Int) - 8)∧m≤hv+6∧zZ wx w.heap.size v o∧Hid (o++zc7 (n*64+u) m=out++zc7 (n*64+u) (hv+6))∧Below w.heap.size w wx) (fun _ kk _=>(RowKit.intOf kk+8).toNat)
     case atStart=>exact ⟨hv+6,out,congrArg (Value.int .i64) (by omega),Nat.le_refl _,hown,hid rfl,hbw⟩
     case round=>
      obtain ⟨m,o,rfl,hm,hownx,HE,hbx⟩:=hrel;have hol2:o.length≤3*k+3:=by
       have e:=congrArg List.length HE.out;rw[List.length_append,List.length_append] at e;have:=HEL.out
       omega
      by_cases hm8:m<8
      ·have hg0:decide ((0:Int)≤(m:Int) - 8)=false:=decide_eq_false (by omega)
       have hg1:decide ((8:Int)≤(m:Int))=false:=decide_eq_false (by omega);have hg2:¬8≤m:=by omega
       have HOE:=hid (show o=out++zc7 (n*64+u) (hv+6) by have e:=HE.out;rw[zkB _ _ hm8,List.append_nil] at e;exact e);clear HE hm8
       go_wp2
       go_roundw
       case rel=>exact ⟨k+1,⟨0,0,0,o⟩,by omega,by go_num,rfl,rfl,rfl,hownx,by show o.length≤_;omega,hid (by rw[HOE.out];exact HBN.out.symm),hid ⟨by rw[HOE.out];exact HS.out,by show (0:Nat)≤2;decide⟩,hbx⟩
       case measure=>simp[RowKit.intOf];omega
      ·have hg0:decide ((0:Int)≤(m:Int) - 8)=true:=decide_eq_true (by omega)
       have hg1:decide ((8:Int)≤(m:Int))=true:=decide_eq_true (by omega);have hg2:8≤m:=by omega
       have hg3:(0:Int)≤(m:Int) - 8:=by omega
       have hg4:(m:Int) - 8≤64:=by omega
       have hsh:=zqF (n*64+u) m;have hst:=zjb (n*64+u) m hg2;obtain ⟨by8,hby⟩:∃x,x=UInt8.ofNat ((n*64+u) / 2 ^ (m - 8)):=⟨_,rfl⟩;rw[←hby] at hsh hst;have HE2:=hid (show (o++[by8])++zc7 (n*64+u) (m - 8)=out++zc7 (n*64+u) (hv+6) by rw[←HE.out,hst,List.append_assoc];rfl);rw[show ((n*64+u:Nat):Int)=(n:Int)*64+(u:Int) by omega] at hsh;clear hst hby HE hm8 hbw;have ho':=hownx;unfold zZ at ho'
       go_wp2_with (at_builtin;refine wpList_append_own _ rfl _ _ 80 rfl w.heap.size 5 i0 (.int .u8 0) 1 1 Tryz.underlying80 hi0 hz0 hz1 hz2 rfl (by decide) _ _ _ rfl (ho'.alloc _) ⟨wr.heap.size,0,none⟩ 1 1 [zat by8] rfl rfl (cell_one_new _ _ _) ?c1 ?c2 ?c3 ?c4 ?c5)
       case c1=>exact zbq [by8]
       case c2=>unfold maxLen;omega
       case c3=>omega
       case c4=>have:=hbx.size;simp;omega
       case c5=>
        intro v2 w2 hown2 hg5 _;have hb2:Below w.heap.size w w2:=(hbx.alloc hbx.size _).grown hg5 (by have:=hbx.size;simp;omega) (zI ho');have ho2:zZ w2 w.heap.size v2 (o++[by8]):=by
         unfold zZ;rw[List.length_append,List.map_append];exact hown2
        clear hown2 hg5 ho' hownx
        go_wp2
        go_roundw
        case rel=>exact ⟨m - 8,o++[by8],congrArg (Value.int .i64) (by omega),by omega,ho2,HE2,hb2⟩
        case measure=>simp[RowKit.intOf];omega
    ·have HSF:=hid (show zbj p ⟨n*64+u,hv+6,0,out⟩=⟨n*64+u,hv+6,0,out⟩ by unfold zbj;rw[if_neg h3p])
     rw[HSF.out] at HS HBN;have hpp:((p:Int)==3)=false:=beq_eq_false_iff_ne.2 (by omega);clear HSF HN HP h3p
     go_wp2_with fail
     refine (HIK.out _).mono ?_;rintro e w1 ⟨rfl,rfl⟩
     go_wp2
     go_roundw
     case rel=>exact ⟨k+1,⟨n*64+u,hv+6,0,out⟩,by omega,by go_num,by go_num,by go_num,rfl,hown,by show out.length≤_;omega,hid HBN.out.symm,hid ⟨HS.out,by show (0:Nat)≤2;decide⟩,hbw⟩
     case measure=>simp[RowKit.intOf];omega
   ·have HS:=hid (HST.out _ h)
    have HN:=hid (HNX.out _ h);have HBN:=hid (show b64 s.data.toList=zbR (s.data.toList.drop (k+1)) (k+1) (zbj (k % 4) ⟨n,hv,1,out⟩) by rw[HAT.out,h]);rw[←HP.out] at HS HBN;rw[hVal.out] at h2;have hv0:decide (0≤v)=false:=decide_eq_false (by omega);have hc:(bt s k==61)=true:=beq_iff_eq.2 (HFI.out.1 h3);have hmz:hv % 8<8:=Nat.mod_lt _ (by omega);obtain ⟨t,ht⟩:∃t:Nat,t=hv % 8:=⟨_,rfl⟩;have hvt:(hv:Int) % 8=(t:Int):=by omega
    have hand:=zrr n t (by omega) (by omega);rw[←ht] at h5;have ht8:t<8:=by omega
    have hpw:((2:Int) ^ t)≤128:=by
     have h7:((2 ^ t:Nat):Int)=(2:Int) ^ t:=by simp
     have:2 ^ t≤2 ^ 7:=Nat.pow_le_pow_right (by omega) (by omega)
     omega
    have hpw0:0<((2:Int) ^ t):=by
     have h7:((2 ^ t:Nat):Int)=(2:Int) ^ t:=by simp
     have:0<2 ^ t:=Nat.pow_pos (by omega)
     omega
    clear ht hmz;dsimp only at h1;subst h1;dsimp only at h5;have hm0:((n:Int) % 2 ^ t==0)=true:=by rw[show (n:Int) % 2 ^ t=((n % 2 ^ t:Nat):Int) by simp,h5];rfl
    rw[←HP.out] at h4;have hp2:decide ((2:Int)≤(p:Int))=true:=decide_eq_true (by omega);clear h HAT HST HNX HFI hVal hq0 h2 h3 h5
    by_cases h3p:p=3
    ·subst h3p
     have HSF:=hid (show zbj 3 ⟨n,hv,1,out⟩=⟨0,0,1,out++zc7 (n) (hv)⟩ from rfl);rw[HSF.out] at HS HBN;have hn2:=HN.out;dsimp only at hn2;clear HSF HN HP
     go_wp2_with fail
     refine (HIK.out _).mono ?_;rintro e w1 ⟨rfl,rfl⟩
     go_wp2_with fail
     have hh24:hv≤24:=by omega
     clear hn2;have HEL:=hid (ziG (n) (hv) hh24);obtain ⟨xo,rfl⟩:∃xo:World,xo=wr:=⟨_,rfl⟩;clear hm0 hp2 hc hv0 hvt hand hpw hpw0 ht8
     go_loopw [5,12] (fun v kk wx=>∃(m:Nat) (o:List UInt8),kk= .int .i64 ((m:Int) - 8)∧m≤hv∧zZ wx w.heap.size v o∧Hid (o++zc7 (n) m=out++zc7 (n) (hv))∧Below w.heap.size w wx) (fun _ kk _=>(RowKit.intOf kk+8).toNat)
     case atStart=>exact ⟨hv,out,rfl,Nat.le_refl _,hown,hid rfl,hbw⟩
     case round=>
      obtain ⟨m,o,rfl,hm,hownx,HE,hbx⟩:=hrel;have hol2:o.length≤3*k+3:=by
       have e:=congrArg List.length HE.out;rw[List.length_append,List.length_append] at e;have:=HEL.out
       omega
      by_cases hm8:m<8
      ·have hg0:decide ((0:Int)≤(m:Int) - 8)=false:=decide_eq_false (by omega)
       have hg1:decide ((8:Int)≤(m:Int))=false:=decide_eq_false (by omega);have hg2:¬8≤m:=by omega
       have HOE:=hid (show o=out++zc7 (n) (hv) by have e:=HE.out;rw[zkB _ _ hm8,List.append_nil] at e;exact e);clear HE hm8
       go_wp2
       go_roundw
       case rel=>exact ⟨k+1,⟨0,0,1,o⟩,by omega,by go_num,rfl,rfl,rfl,hownx,by show o.length≤_;omega,hid (by rw[HOE.out];exact HBN.out.symm),hid ⟨by rw[HOE.out];exact HS.out,by show (1:Nat)≤2;decide⟩,hbx⟩
       case measure=>simp[RowKit.intOf];omega
      ·have hg0:decide ((0:Int)≤(m:Int) - 8)=true:=decide_eq_true (by omega)
       have hg1:decide ((8:Int)≤(m:Int))=true:=decide_eq_true (by omega);have hg2:8≤m:=by omega
       have hg3:(0:Int)≤(m:Int) - 8:=by omega
       have hg4:(m:Int) - 8≤64:=by omega
       have hsh:=zqF (n) m;have hst:=zjb (n) m hg2;obtain ⟨by8,hby⟩:∃x,x=UInt8.ofNat ((n) / 2 ^ (m - 8)):=⟨_,rfl⟩;rw[←hby] at hsh hst;have HE2:=hid (show (o++[by8])++zc7 (n) (m - 8)=out++zc7 (n) (hv) by rw[←HE.out,hst,List.append_assoc];rfl)
       skip
       clear hst hby HE hm8 hbw;have ho':=hownx;unfold zZ at ho'
       go_wp2_with (at_builtin;refine wpList_append_own _ rfl _ _ 80 rfl w.heap.size 5 i0 (.int .u8 0) 1 1 Tryz.underlying80 hi0 hz0 hz1 hz2 rfl (by decide) _ _ _ rfl (ho'.alloc _) ⟨wr.heap.size,0,none⟩ 1 1 [zat by8] rfl rfl (cell_one_new _ _ _) ?c1x ?c2x ?c3x ?c4x ?c5x)
       case c1x=>exact zbq [by8]
       case c2x=>unfold maxLen;omega
       case c3x=>omega
       case c4x=>have:=hbx.size;simp;omega
       case c5x=>
        intro v2 w2 hown2 hg5 _;have hb2:Below w.heap.size w w2:=(hbx.alloc hbx.size _).grown hg5 (by have:=hbx.size;simp;omega) (zI ho');have ho2:zZ w2 w.heap.size v2 (o++[by8]):=by
         unfold zZ;rw[List.length_append,List.map_append];exact hown2
        clear hown2 hg5 ho' hownx
        go_wp2
        go_roundw
        case rel=>exact ⟨m - 8,o++[by8],congrArg (Value.int .i64) (by omega),by omega,ho2,HE2,hb2⟩
        case measure=>simp[RowKit.intOf];omega
    ·have HSF:=hid (show zbj p ⟨n,hv,1,out⟩=⟨n,hv,1,out⟩ by unfold zbj;rw[if_neg h3p])
     rw[HSF.out] at HS HBN;have hpp:((p:Int)==3)=false:=beq_eq_false_iff_ne.2 (by omega);clear HSF HN HP h3p
     go_wp2_with fail
     refine (HIK.out _).mono ?_;rintro e w1 ⟨rfl,rfl⟩
     go_wp2
     go_roundw
     case rel=>exact ⟨k+1,⟨n,hv,1,out⟩,by omega,by go_num,rfl,rfl,rfl,hown,by show out.length≤_;omega,hid HBN.out.symm,hid ⟨HS.out,by show (1:Nat)≤2;decide⟩,hbw⟩
     case measure=>simp[RowKit.intOf];omega
   ·have HBN:=hid (show b64 s.data.toList=none by rw[HAT.out,h])
    rw[hVal.out] at h2;have hv0:decide (0≤v)=false:=decide_eq_false (by omega);have hc:(bt s k==61)=true:=beq_iff_eq.2 (HFI.out.1 h3);have hmz:hv % 8<8:=Nat.mod_lt _ (by omega);obtain ⟨t,ht⟩:∃t:Nat,t=hv % 8:=⟨_,rfl⟩;have hvt:(hv:Int) % 8=(t:Int):=by omega
    have hand:=zrr n t (by omega) (by omega);rw[←ht] at h5;have ht8:t<8:=by omega
    have hpw:((2:Int) ^ t)≤128:=by
     have h7:((2 ^ t:Nat):Int)=(2:Int) ^ t:=by simp
     have:2 ^ t≤2 ^ 7:=Nat.pow_le_pow_right (by omega) (by omega)
     omega
    have hpw0:0<((2:Int) ^ t):=by
     have h7:((2 ^ t:Nat):Int)=(2:Int) ^ t:=by simp
     have:0<2 ^ t:=Nat.pow_pos (by omega)
     omega
    clear ht hmz;dsimp only at h1;subst h1;dsimp only at h5;have hm0:((n:Int) % 2 ^ t==0)=false:=by rw[show (n:Int) % 2 ^ t=((n % 2 ^ t:Nat):Int) by simp];exact beq_eq_false_iff_ne.2 (by omega)
    rw[←HP.out] at h4;have hp2:decide ((2:Int)≤(p:Int))=true:=decide_eq_true (by omega);clear h HAT HST HNX HFI hVal hq0 h2 h3 h5 HP
    go_wp2_with fail
    refine (HIK.out _).mono ?_;rintro e w1 ⟨rfl,rfl⟩
    go_wp2
    go_ret3
    exact zcc HBN.out hbw
   ·have HBN:=hid (show b64 s.data.toList=none by rw[HAT.out,h])
    rw[hVal.out] at h2;have hv0:decide (0≤v)=false:=decide_eq_false (by omega);have hc:(bt s k==61)=true:=beq_iff_eq.2 (HFI.out.1 h3);dsimp only at h1;subst h1;rw[←HP.out] at h4;have hp2:decide ((2:Int)≤(p:Int))=false:=decide_eq_false (by omega);clear h HAT HST HNX HFI hVal hq0 h2 h3 HP
    go_wp2_with fail
    refine (HIK.out _).mono ?_;rintro e w1 ⟨rfl,rfl⟩
    go_wp2
    go_ret3
    exact zcc HBN.out hbw
   ·have HBN:=hid (show b64 s.data.toList=none by rw[HAT.out,h])
    rw[hVal.out] at h2;have hv0:decide (0≤v)=false:=decide_eq_false (by omega);have hc:(bt s k==61)=false:=beq_eq_false_iff_ne.2 (fun g=>h3 (HFI.out.2 g));dsimp only at h1;subst h1;clear h HAT HST HNX HFI hVal hq0 h2 h3 HP
    go_wp2_with fail
    refine (HIK.out _).mono ?_;rintro e w1 ⟨rfl,rfl⟩
    go_wp2
    go_ret3
    exact zcc HBN.out hbw
   ·have HS:=hid (HST.out _ h)
    have HN:=hid (HNX.out _ h);have HBN:=hid (show b64 s.data.toList=zbR (s.data.toList.drop (k+1)) (k+1) (zbj (k % 4) ⟨n,hv,2,out⟩) by rw[HAT.out,h]);rw[←HP.out] at HS HBN;rw[hVal.out] at h2;have hv0:decide (0≤v)=false:=decide_eq_false (by omega);have hc:(bt s k==61)=true:=beq_iff_eq.2 (HFI.out.1 h3);dsimp only at h1;subst h1;rw[←HP.out] at h4;clear h HAT HST HNX HFI hVal hq0 h2 h3;subst h4;have HSF:=hid (show zbj 3 ⟨n,hv,2,out⟩=⟨0,0,2,out++zc7 (n) (hv)⟩ from rfl);rw[HSF.out] at HS HBN;have hn2:=HN.out;dsimp only at hn2;clear HSF HN HP
    go_wp2_with fail
    refine (HIK.out _).mono ?_;rintro e w1 ⟨rfl,rfl⟩
    go_wp2_with fail
    have hh24:hv≤24:=by omega
    clear hn2;have HEL:=hid (ziG (n) (hv) hh24);obtain ⟨xo,rfl⟩:∃xo:World,xo=wr:=⟨_,rfl⟩
    skip
    go_loopw [5,12] (fun v kk wx=>∃(m:Nat) (o:List UInt8),kk= .int .i64 ((m:Int) - 8)∧m≤hv∧zZ wx w.heap.size v o∧Hid (o++zc7 (n) m=out++zc7 (n) (hv))∧Below w.heap.size w wx) (fun _ kk _=>(RowKit.intOf kk+8).toNat)
    case atStart=>exact ⟨hv,out,rfl,Nat.le_refl _,hown,hid rfl,hbw⟩
    case round=>
     obtain ⟨m,o,rfl,hm,hownx,HE,hbx⟩:=hrel;have hol2:o.length≤3*k+3:=by
      have e:=congrArg List.length HE.out;rw[List.length_append,List.length_append] at e;have:=HEL.out
      omega
     by_cases hm8:m<8
     ·have hg0:decide ((0:Int)≤(m:Int) - 8)=false:=decide_eq_false (by omega)
      have hg1:decide ((8:Int)≤(m:Int))=false:=decide_eq_false (by omega);have hg2:¬8≤m:=by omega
      have HOE:=hid (show o=out++zc7 (n) (hv) by have e:=HE.out;rw[zkB _ _ hm8,List.append_nil] at e;exact e);clear HE hm8
      go_wp2
      go_roundw
      case rel=>exact ⟨k+1,⟨0,0,2,o⟩,by omega,by go_num,rfl,rfl,rfl,hownx,by show o.length≤_;omega,hid (by rw[HOE.out];exact HBN.out.symm),hid ⟨by rw[HOE.out];exact HS.out,by show (2:Nat)≤2;decide⟩,hbx⟩
      case measure=>simp[RowKit.intOf];omega
     ·have hg0:decide ((0:Int)≤(m:Int) - 8)=true:=decide_eq_true (by omega)
      have hg1:decide ((8:Int)≤(m:Int))=true:=decide_eq_true (by omega);have hg2:8≤m:=by omega
      have hg3:(0:Int)≤(m:Int) - 8:=by omega
      have hg4:(m:Int) - 8≤64:=by omega
      have hsh:=zqF (n) m;have hst:=zjb (n) m hg2;obtain ⟨by8,hby⟩:∃x,x=UInt8.ofNat ((n) / 2 ^ (m - 8)):=⟨_,rfl⟩;rw[←hby] at hsh hst;have HE2:=hid (show (o++[by8])++zc7 (n) (m - 8)=out++zc7 (n) (hv) by rw[←HE.out,hst,List.append_assoc];rfl)
      skip
      clear hst hby HE hm8 hbw;have ho':=hownx;unfold zZ at ho'
      go_wp2_with (at_builtin;refine wpList_append_own _ rfl _ _ 80 rfl w.heap.size 5 i0 (.int .u8 0) 1 1 Tryz.underlying80 hi0 hz0 hz1 hz2 rfl (by decide) _ _ _ rfl (ho'.alloc _) ⟨wr.heap.size,0,none⟩ 1 1 [zat by8] rfl rfl (cell_one_new _ _ _) ?c1xx ?c2xx ?c3xx ?c4xx ?c5xx)
      case c1xx=>exact zbq [by8]
      case c2xx=>unfold maxLen;omega
      case c3xx=>omega
      case c4xx=>have:=hbx.size;simp;omega
      case c5xx=>
       intro v2 w2 hown2 hg5 _;have hb2:Below w.heap.size w w2:=(hbx.alloc hbx.size _).grown hg5 (by have:=hbx.size;simp;omega) (zI ho');have ho2:zZ w2 w.heap.size v2 (o++[by8]):=by
        unfold zZ;rw[List.length_append,List.map_append];exact hown2
       clear hown2 hg5 ho' hownx
       go_wp2
       go_roundw
       case rel=>exact ⟨m - 8,o++[by8],congrArg (Value.int .i64) (by omega),by omega,ho2,HE2,hb2⟩
       case measure=>simp[RowKit.intOf];omega
   ·have HBN:=hid (show b64 s.data.toList=none by rw[HAT.out,h])
    rw[hVal.out] at h2;have hv0:decide (0≤v)=false:=decide_eq_false (by omega);have hc:(bt s k==61)=true:=beq_iff_eq.2 (HFI.out.1 h3);dsimp only at h1;subst h1;rw[←HP.out] at h5;have hp0:((p:Int)==0)=false:=beq_eq_false_iff_ne.2 (by omega);rw[←HP.out] at h4;have hp3:((p:Int)==3)=false:=beq_eq_false_iff_ne.2 (by omega);clear h HAT HST HNX HFI hVal hq0 h2 h3 HP h4 h5
    go_wp2_with fail
    refine (HIK.out _).mono ?_;rintro e w1 ⟨rfl,rfl⟩
    go_wp2
    go_ret3
    exact zcc HBN.out hbw
   ·have HBN:=hid (show b64 s.data.toList=none by rw[HAT.out,h])
    rw[hVal.out] at h2;have hv0:decide (0≤v)=false:=decide_eq_false (by omega);have hc:(bt s k==61)=true:=beq_iff_eq.2 (HFI.out.1 h3);dsimp only at h1;have hf2:((f:Int)==1)=false:=beq_eq_false_iff_ne.2 (by omega);dsimp only at h0;have hfn:0<f:=by omega
    have hf1:decide ((0:Int)<(f:Int))=true:=decide_eq_true (by omega);have hf0:((f:Int)==0)=false:=beq_eq_false_iff_ne.2 (by omega);rw[←HP.out] at h5;have hp0:((p:Int)==0)=false:=beq_eq_false_iff_ne.2 (by omega);clear h HAT HST HNX HFI hVal hq0 h2 h3 HP h5 h0 h1
    go_wp2_with fail
    refine (HIK.out _).mono ?_;rintro e w1 ⟨rfl,rfl⟩
    go_wp2
    go_ret3
    exact zcc HBN.out hbw
   ·have HBN:=hid (show b64 s.data.toList=none by rw[HAT.out,h])
    rw[hVal.out] at h2;have hv0:decide (0≤v)=false:=decide_eq_false (by omega);have hc:(bt s k==61)=false:=beq_eq_false_iff_ne.2 (fun g=>h3 (HFI.out.2 g));dsimp only at h0;have hfn:0<f:=by omega
    have hf1:decide ((0:Int)<(f:Int))=true:=decide_eq_true (by omega);have hf0:((f:Int)==0)=false:=beq_eq_false_iff_ne.2 (by omega);rw[←HP.out] at h5;have hp0:((p:Int)==0)=false:=beq_eq_false_iff_ne.2 (by omega);clear h HAT HST HNX HFI hVal hq0 h2 h3 HP h5 h0
    go_wp2_with fail
    refine (HIK.out _).mono ?_;rintro e w1 ⟨rfl,rfl⟩
    go_wp2
    go_ret3
    exact zcc HBN.out hbw
   ·have HBN:=hid (show b64 s.data.toList=none by rw[HAT.out,h])
    rw[hVal.out] at h2;have hv0:decide (0≤v)=true:=decide_eq_true h2;have hc:(bt s k==61)=false:=beq_eq_false_iff_ne.2 (fun g=>h3 (HFI.out.2 g));dsimp only at h0;have hfn:0<f:=by omega
    have hf1:decide ((0:Int)<(f:Int))=true:=decide_eq_true (by omega);have hf0:((f:Int)==0)=false:=beq_eq_false_iff_ne.2 (by omega);rw[←HP.out] at h5;have hp0:((p:Int)==0)=false:=beq_eq_false_iff_ne.2 (by omega);clear h HAT HST HNX HFI hVal hq0 h2 h3 HP h5 h0
    go_wp2_with fail
    refine (HIK.out _).mono ?_;rintro e w1 ⟨rfl,rfl⟩
    go_wp2
    go_ret3
    exact zcc HBN.out hbw
  ·obtain rfl:k=s.size:=by omega
   have hrun:=HB.out;rw[List.drop_of_length_le (show s.data.toList.length≤s.size from Nat.le_refl _),zbR] at hrun
   by_cases h4:s.size % 4=0
   ·have hm:(s.size:Int) % 4=0:=by omega
    have HY:=hid (show b64 s.data.toList=some out by rw[←hrun,if_pos h4]);have hcv:=hown.conv;clear hrun h4 HB HO
    go_wp2
    go_ret3
    exact zfv HY.out hbw
   ·have hm:((s.size:Int) % 4!=0)=true:=bne_iff_ne.2 (by omega)
    have HN:=hid (show b64 s.data.toList=none by rw[←hrun,if_neg h4]);clear hrun h4 HB HO
    go_wp2
    go_ret3
    exact zcc HN.out hbw
theorem zb.low {w w1 w2 w':World} (h:zb (Btw w w1) w2 w') (h1:Below w.heap.size w w1) (h2:Below w1.heap.size w1 w2):Below w.heap.size w2 w':=
 ⟨h.os,h.tape,h.output,h.size,fun k hk=>h.block k (Nat.lt_of_lt_of_le hk (Nat.le_trans h1.size h2.size)) (fun hd=>by have:=hd.1;omega)⟩
def zaG (m:zY) (r:Rq):Rq⊕Rs:=if zr m=true then zx m r else .inl r
def zds (m:zY) (r:Rq) (x:Rs):Rs:=if zr m=true then zB m r x else x
def zbD:List zY→Rq→List Rq×Option Rs
 |[],r=>([r],none)
 |m::l,r=>match zaG m r with
  | .inr o=>([r],some o)
  | .inl q=>(r::(zbD l q).1,(zbD l q).2)
def zwd (r:Rq):List Rq→Rq
 |[]=>r
 |q::a=>zwd q a
def znB (l:List zY) (r:Rq):Rq:=zwd r (zbD l r).1
def ze6:List zY→List Rq→Rs→Rs
 |m::l,r::q::a,x=>zds m r (ze6 l (q::a) x)
 |_,_,x=>x
theorem zpe (l:List zY) (r:Rq):∃a,(zbD l r).1=r::a:=by
 cases l with
 |nil=>exact ⟨[],rfl⟩
 |cons m l=>
  unfold zbD
  cases zaG m r with
  |inr o=>exact ⟨[],rfl⟩
  |inl q=>exact ⟨_,rfl⟩
theorem zvM (l:List zY) (r:Rq):(zbD l r).1.length≤l.length+1:=by
 induction l generalizing r with
 |nil=>exact Nat.le_refl _
 |cons m l ih=>
  unfold zbD
  cases zaG m r with
  |inr o=>simp
  |inl q=>have:=ih q;simp;omega
theorem zo7 {m:zY} {l:List zY} {r q:Rq} (h:zaG m r= .inl q):znB (m::l) r=znB l q:=by
 obtain ⟨a,ha⟩:=zpe l q;have e:(zbD (m::l) r).1=r::(zbD l q).1:=by
  show (match zaG m r with| .inr o=>([r],some o)| .inl q=>(r::(zbD l q).1,(zbD l q).2)).1=_;rw[h]
 unfold znB;rw[e,ha]
 rfl
theorem zgF {m:zY} {l:List zY} {r q:Rq} (h:zaG m r= .inl q):zbD (m::l) r=(r::(zbD l q).1,(zbD l q).2):=by
 show (match zaG m r with| .inr o=>([r],some o)| .inl q=>(r::(zbD l q).1,(zbD l q).2))=_;rw[h]
theorem ziC {m:zY} {l:List zY} {r:Rq} {o:Rs} (h:zaG m r= .inr o):zbD (m::l) r=([r],some o):=by
 show (match zaG m r with| .inr o=>([r],some o)| .inl q=>(r::(zbD l q).1,(zbD l q).2))=_;rw[h]
theorem zrp {m:zY} {l:List zY} {r q:Rq} (h:zaG m r= .inl q) (x:Rs):ze6 (m::l) (zbD (m::l) r).1 x=zds m r (ze6 l (zbD l q).1 x):=by
 rw[zgF h];obtain ⟨a,ha⟩:=zpe l q;show ze6 (m::l) (r::(zbD l q).1) x=_;rw[ha]
 rfl
theorem zkW (T:Ans):∀(l:List zY) {r:Rq} {w w':World} {x:Rs} {A:Option Addr} {c:Nat},zh2 l T r w x A c w'→
  match (zbD l r).2 with
  |some o=>x=ze6 l (zbD l r).1 o∧ziZ w w' x A c∧Below w.heap.size w w'
  |none=>∃w1 y A1 c1 w2,Below w.heap.size w w1∧T (znB l r) w1 y A1 c1 w2∧x=ze6 l (zbD l r).1 y∧zb (Btw w w1) w2 w'∧(ziZ w w' x A c∨(x=y∧A=A1∧c=c1))
 |[],r,w,w',x,A,c,h=>⟨w,x,A,c,w',Below.refl _ _,h,rfl,zb.refl _ _,.inr ⟨rfl,rfl,rfl⟩⟩
 |m::l,r,w,w',x,A,c,h=>by
  unfold zh2 at h
  by_cases hm:zr m=true
  ·rw[if_pos hm] at h
   have hd:zaG m r=zx m r:=if_pos hm;have hbd:∀r x,zds m r x=zB m r x:=fun r x=>if_pos hm
   unfold doT at h
   cases ha:zx m r with
   |inr o=>
    rw[ha] at h hd;rw[ziC hd];exact ⟨h.1,h.2.1,h.2.2⟩
   |inl q=>
    rw[ha] at h hd;obtain ⟨w1,y,A1,c1,w2,g1,g2,g3,g4,g5⟩:=h;have ih:=zkW T l g2;have hb:=fun x=>zrp (l:=l) hd x
    rw[zo7 hd];rw[zgF hd] at hb ⊢
    cases hw:(zbD l q).2 with
    |some o=>
     rw[hw] at ih;obtain ⟨i1,i2,i3⟩:=ih;refine ⟨by rw[g3,i1,hb,hbd],?_,(g1.trans (i3.mono g1.size)).trans (zb.low g4 g1 i3)⟩
     rcases g5 with g5|⟨g5,g6,g7⟩
     ·exact g5
     ·subst g5 g6 g7
      exact (i2.keep g4 (fun k hk=>hk.2)).less g1.size
    |none=>
     rw[hw] at ih;obtain ⟨v1,z,B1,d1,v2,i1,i2,i3,i4,i5⟩:=ih;refine ⟨v1,z,B1,d1,v2,g1.trans (i1.mono g1.size),i2,by rw[g3,i3,hb,hbd],zb.btw' g1 i1 i4 g4,?_⟩
     rcases g5 with g5|⟨g5,g6,g7⟩
     ·exact .inl g5
     ·subst g5 g6 g7
      rcases i5 with i5|i5
      ·exact .inl ((i5.keep g4 (fun k hk=>hk.2)).less g1.size)
      ·exact .inr i5
  ·rw[if_neg hm] at h
   have hd:zaG m r= .inl r:=if_neg hm;have hbd:∀r x,zds m r x=x:=fun r x=>if_neg hm
   have ih:=zkW T l h;have hb:=fun x=>zrp (l:=l) hd x
   rw[zo7 hd];rw[zgF hd] at hb ⊢
   cases hw:(zbD l r).2 with
   |some o=>
    rw[hw] at ih;exact ⟨by rw[ih.1,hb,hbd],ih.2⟩
   |none=>
    rw[hw] at ih;obtain ⟨v1,z,B1,d1,v2,i1,i2,i3,i45⟩:=ih;exact ⟨v1,z,B1,d1,v2,i1,i2,by rw[i3,hb,hbd],i45⟩
theorem zrz:∀(l:List zY) {r:Rq},zcO r→∀q∈(zbD l r).1,zcO q
 |[],r,hr,q,hq=>by
  rcases List.mem_singleton.1 hq with rfl
  exact hr
 |m::l,r,hr,q,hq=>by
  cases ha:zaG m r with
  |inr o=>
   rw[ziC ha] at hq
   rcases List.mem_singleton.1 hq with rfl
   exact hr
  |inl p=>
   rw[zgF ha] at hq
   rcases List.mem_cons.1 hq with rfl|hq
   ·exact hr
   ·refine zrz l ?_ q hq
    unfold zaG at ha
    split at ha
    ·rename_i hm
     exact zi9 hm hr ha
    ·cases ha;exact hr
theorem zmU {m:Nat} (h:m<10):(Lib.decDigits m).length=1:=by rw[zjd h];rfl
theorem zvH (m:Nat):1≤(Lib.decDigits m).length:=by
 by_cases h:m<10
 ·rw[zmU h];exact Nat.le_refl _
 ·rw[zgP (by omega),List.length_append];simp
theorem zga {m:Nat} (h:10≤m):(Lib.decDigits m).length=(Lib.decDigits (m / 10)).length+1:=by
 rw[zgP h,List.length_append];rfl
theorem zmr {m:Nat} (h:100≤m) (h2:m<1000):Lib.decDigits m=[UInt8.ofNat (48+m / 100),UInt8.ofNat (48+m / 10 % 10),UInt8.ofNat (48+m % 10)]:=by
 rw[zgP (by omega),zgP (m:=m / 10) (by omega),zjd (m:=m / 10 / 10) (by omega)];have e:m / 10 / 10 % 10=m / 100:=by omega
 rw[e]
 rfl
theorem zu0 {m:Nat} (h:(Lib.decDigits m).length=3):100≤m∧m<1000:=by
 by_cases h1:m<10
 ·rw[zmU h1] at h;omega
 ·rw[zga (by omega)] at h
  by_cases h2:m / 10<10
  ·rw[zmU h2] at h;omega
  ·rw[zga (m:=m / 10) (by omega)] at h
   by_cases h3:m / 10 / 10<10
   ·omega
   ·rw[zga (m:=m / 10 / 10) (by omega)] at h
    have:=zvH (m / 10 / 10 / 10)
    omega
theorem zqB {a b:Nat} (ha:a<10) (hb:b<10) (h:UInt8.ofNat (48+a)=UInt8.ofNat (48+b)):a=b:=by
 have h2:=congrArg UInt8.toNat h;rw[UInt8.toNat_ofNat',UInt8.toNat_ofNat'] at h2
 omega
def zxh (m:Nat):ByteArray:=⟨#[UInt8.ofNat (48+m / 100),UInt8.ofNat (48+m / 10 % 10),UInt8.ofNat (48+m % 10)]⟩
theorem zqr:∀x∈zeE,x.2.1=zxh x.1.toNat:=by decide +kernel
theorem zpR {n:Int} (h:100≤n) (h2:n<1000):za3 n=zxh n.toNat:=by
 apply zV
 show Lib.itoa n=_;unfold Lib.itoa;rw[if_neg (by omega),zmr (by omega) (by omega)]
 rfl
theorem zqX {a b:List UInt8} (h:(⟨a.toArray⟩:ByteArray)=⟨b.toArray⟩):a=b:=by
 have:=congrArg (fun x:ByteArray=>x.data.toList) h
 simpa using this
theorem zfS (n:Int):∀x∈zeE,x.2.1=zh6 n↔x.1=n:=by
 intro x hx;obtain ⟨r0,r1⟩:=zrF x hx;rw[zqr x hx]
 constructor
 ·intro h
  unfold zh6 at h
  by_cases hn:n<0
  ·rw[if_pos hn] at h
   have h2:=congrArg ByteArray.size h;exact absurd (show (3:Nat)=1 from h2) (by decide)
  ·rw[if_neg hn] at h
   have h2:Lib.itoa n=[UInt8.ofNat (48+x.1.toNat / 100),UInt8.ofNat (48+x.1.toNat / 10 % 10),UInt8.ofNat (48+x.1.toNat % 10)]:=(zqX h).symm;unfold Lib.itoa at h2;rw[if_neg hn] at h2;obtain ⟨l0,l1⟩:=zu0 (m:=n.toNat) (by rw[h2];rfl);rw[zmr l0 l1] at h2;injection h2 with a h2;injection h2 with b h2;injection h2 with c h2;have a:=zqB (by omega) (by omega) a;have b:=zqB (by omega) (by omega) b;have c:=zqB (by omega) (by omega) c
   omega
 ·intro h
  subst h;unfold zh6;rw[if_neg (by omega),zpR r0 (by omega)]
theorem zk5 {m:zY} {r q:Rq} (h:zaG m r= .inl q):q.fields=r.fields∧q.trailers=r.trailers:=by
 unfold zaG at h
 split at h
 ·unfold zx at h
  repeat' split at h
  all_goals first|(cases h;exact ⟨rfl,rfl⟩)|cases h
 ·cases h;exact ⟨rfl,rfl⟩
structure zgt (l:List zY) (r0:Rq) (k:Nat) (done:List Rq) (r:Rq):Prop where
 len:done.length=k
 all:(zbD l r0).1=done++(zbD (l.drop k) r).1
 own:(zbD l r0).2=(zbD (l.drop k) r).2
 fields:r.fields=r0.fields
 trailers:r.trailers=r0.trailers
 fit:zcO r
theorem zgt.start (l:List zY) {r:Rq} (hr:zcO r):zgt l r 0 [] r:=⟨rfl,rfl,rfl,rfl,rfl,hr⟩
theorem zgt.on {l:List zY} {r0 r q:Rq} {k:Nat} {done:List Rq} {m:zY} (h:zgt l r0 k done r) (hm:l[k]?=some m) (ha:zaG m r= .inl q):zgt l r0 (k+1) (done++[r]) q:=by
 have e:=zeq hm;obtain ⟨s1,s2⟩:=zk5 ha;refine ⟨by rw[List.length_append,h.len];rfl,?_,?_,s1.trans h.fields,s2.trans h.trailers,?_⟩
 ·rw[h.all,e,zgF ha,List.append_assoc]
  rfl
 ·rw[h.own,e,zgF ha]
 ·unfold zaG at ha
  split at ha
  ·rename_i hc
   exact zi9 hc h.fit ha
  ·cases ha;exact h.fit
theorem zgt.own_at {l:List zY} {r0 r:Rq} {k:Nat} {done:List Rq} {m:zY} {o:Rs} (h:zgt l r0 k done r) (hm:l[k]?=some m) (ha:zaG m r= .inr o):zbD l r0=(done++[r],some o):=by
 have e:=zeq hm;have h1:=h.all;have h2:=h.own;rw[e,ziC ha] at h1 h2;exact Prod.ext h1 h2
theorem zgt.at_end {l:List zY} {r0 r:Rq} {k:Nat} {done:List Rq} (h:zgt l r0 k done r) (hk:k=l.length):zbD l r0=(done++[r],none):=by
 subst hk;have h1:=h.all;have h2:=h.own;rw[List.drop_length] at h1 h2;exact Prod.ext h1 h2
theorem zvp {m:zY} {r:Rq} {o:Rs} (hm:zaY m) (hr:zcO r) (h:zaG m r= .inr o):zbH 8 o:=by
 unfold zaG at h
 split at h
 ·exact zsU hm hr h
 ·cases h
theorem zpa {N:Nat} {m:zY} {r:Rq} {x:Rs} (hm:zaY m) (hr:zcO r) (hx:zbH N x):zbH (N+2) (zds m r x):=by
 unfold zds
 split
 ·exact zpy hm hr hx
 ·exact hx.more (by omega)
theorem zvi {l:List zY} {qs:List Rq} {i:Nat} {m:zY} {q:Rq} (hm:l[i]?=some m) (hq:qs[i]?=some q) (hi:i+1<qs.length) (x:Rs):ze6 (l.drop i) (qs.drop i) x=zds m q (ze6 (l.drop (i+1)) (qs.drop (i+1)) x):=by
 have h2:qs[i+1]?=some qs[i+1]:=List.getElem?_eq_getElem hi;rw[zeq hm,zeq hq,zeq h2]
 rfl
theorem zrM {l:List zY} {qs:List Rq} {n:Nat} (h:qs.length=n+1) (x:Rs):ze6 (l.drop n) (qs.drop n) x=x:=by
 have hn:n<qs.length:=by omega
 have h2:qs[n]?=some qs[n]:=List.getElem?_eq_getElem hn;have h3:qs.drop (n+1)=[]:=List.drop_eq_nil_of_le (by omega);rw[zeq h2,h3]
 cases l.drop n<;>rfl
end Go.Proofs.YtbnafbdhomdcoaaGreatDoor
namespace Go.Proofs.YtbnafbdhomdcoaaGreatDoor
open T5
theorem zqs {t:Tg} {s:ByteArray} {i:Nat} (hi:i≤s.size) (h:(zaK t s i).2.2=0):zb0 s i=i+zax (s.extract i s.size) 63:=by
 obtain ⟨_,h2,_⟩:=zkr (s.extract i s.size);have hz:=zk s hi (Nat.le_refl s.size);have he:zb0 s i=i+zz (s.extract i s.size):=rfl;have key:zb0 s i=s.size∨(zb0 s i<s.size∧bt s (zb0 s i)=63):=by
  obtain ⟨_,e2⟩:=zhG hi;unfold zaK at h
  split at h
  ·rename_i h1;exact .inl h1
  ·rename_i h1
   split at h
   ·rename_i h3;exact .inr ⟨by omega,h3⟩
   ·exact absurd h (zi1 _ _ (by omega))
 have hp:=zfx (s.extract i s.size) 63
 rcases key with k|⟨k1,k2⟩
 ·omega
 ·have hb:bt (s.extract i s.size) (zz (s.extract i s.size))=63:=by
   rw[zbe s (by omega),←he];exact k2
  rcases zaC (s.extract i s.size) 63 with ⟨g1,g2⟩|⟨k,g1,g2,g3,g4⟩
  ·exact absurd hb (g2 _ (by omega))
  ·rcases Nat.lt_or_ge (zz (s.extract i s.size)) k with g|g
   ·exact absurd hb (g4 _ g)
   ·omega
def rAt (m s:ByteArray):Nat:=if (parseT m s).2.2=0∧(parseT m s).1.form=2 then endA s 7 else 0
def ziI (s:ByteArray) (i:Nat):Nat:=i+zax (s.extract i s.size) 63
def zcT (m s:ByteArray):ByteArray:=s.extract (rAt m s) (ziI s (rAt m s))
def zfK (v m s:ByteArray):Bool:=decide ((parseT m s).2.2=0)&&((decide ((parseT m s).1.form=1)||decide ((parseT m s).1.form=2))&&(zc0 v (zcT m s)&&(decide ((zcT m s).size≤v.size)||decide (bt (zcT m s) v.size=47))))
def zhg (v m s:ByteArray):ByteArray:=
 s.extract 0 (rAt m s)++(if ((zcT m s).extract v.size (zcT m s).size).size=0 then zeJ else (zcT m s).extract v.size (zcT m s).size)++s.extract (ziI s (rAt m s)) s.size
theorem ziX {m s:ByteArray} (h:(parseT m s).2.2=0) (hf:(parseT m s).1.form=1∨(parseT m s).1.form=2):(parseT m s).1.path=(if (zcT m s).size=0 then zgv else zcT m s)∧ziI s (rAt m s)=zb0 s (rAt m s)∧rAt m s≤s.size:=by
 have key:∃i t,i≤s.size∧parseT m s=zaK t s i∧rAt m s=i:=by
  have hr:rAt m s=if (parseT m s).2.2=0∧(parseT m s).1.form=2 then endA s 7 else 0:=rfl
  unfold parseT at h hf ⊢ hr
  by_cases h0:s.size=0
  ·rw[if_pos h0] at h;cases h
  ·rw[if_neg h0] at h hf hr ⊢
   by_cases hm:m=zbv
   ·rw[if_pos hm] at h hf
    unfold zjs at h hf
    split at h
    ·rename_i h1
     rw[if_pos h1] at hf
     rcases hf with hf|hf<;>cases hf
    ·cases h
   ·rw[if_neg hm] at h hf hr ⊢
    by_cases h47:bt s 0=47
    ·rw[if_pos h47] at h hf hr ⊢
     have g1:=(zd2 h).1;refine ⟨0,_,Nat.zero_le _,rfl,?_⟩;rw[hr,if_neg];rintro ⟨_,g⟩;rw[g1] at g
     cases g
    ·rw[if_neg h47] at h hf hr ⊢
     by_cases hs:s=zcE∧m=zgi
     ·rw[if_pos hs] at hf
      rcases hf with hf|hf<;>cases hf
     ·rw[if_neg hs] at h hf hr ⊢
      by_cases h7:s.size<7∨zaP (s.extract 0 7)≠zdd
      ·rw[if_pos h7] at h;cases h
      ·rw[if_neg h7] at h hf hr ⊢
       unfold zjH at *
       split at h
       ·rename_i h1
        rw[if_pos h1] at hr ⊢;have g1:=(zd2 h).1;have h8:7≤s.size:=by
         rcases Nat.lt_or_ge s.size 7 with g|g
         ·exact absurd (.inl g) h7
         ·exact g
        refine ⟨endA s 7,_,(endA_spec h8).2.1,rfl,?_⟩;rw[hr,if_pos ⟨h,g1⟩]
       ·cases h
 obtain ⟨i,t,hi,hp,hr⟩:=key;rw[hp] at h;have he:=zqs hi h;have g:=(zd2 h).2;rw[hr];have hE:ziI s i=zb0 s i:=he.symm;refine ⟨?_,hE,hi⟩;unfold zcT;rw[hr,hE,hp];exact g
theorem zrO {v m s:ByteArray} (hv:zaZ v=true):zfK v m s=zb9 v m s:=by
 obtain ⟨v2,_,_⟩:=zeu hv;unfold zfK zb9
 by_cases h:(parseT m s).2.2=0
 ·by_cases hf:(parseT m s).1.form=1∨(parseT m s).1.form=2
  ·obtain ⟨hp,_,_⟩:=ziX h hf
   have key:(zc0 v (zcT m s)&&(decide ((zcT m s).size≤v.size)||decide (bt (zcT m s) v.size=47)))=(zc0 v (parseT m s).1.path&&(decide ((zfE (parseT m s).1 v).size=0)||decide (bt (zfE (parseT m s).1 v) 0=47))):=by
    clear h hf;unfold zfE;generalize (parseT m s).1.path=path at *;generalize zcT m s=rp at *
    by_cases hz:rp.size=0
    ·rw[if_pos hz] at hp
     have e1:zc0 v rp=false:=by
      cases hi:zc0 v rp
      ·rfl
      ·have:=(zg8.1 hi).1;omega
     have e2:zc0 v path=false:=by
      rw[hp]
      cases hi:zc0 v zgv
      ·rfl
      ·have:=(zg8.1 hi).1
       have:zgv.size=1:=rfl
       omega
     rw[e1,e2,Bool.false_and,Bool.false_and]
    ·rw[if_neg hz] at hp
     rw[hp]
     cases hi:zc0 v rp
     ·rw[Bool.false_and,Bool.false_and]
     ·have hle:=(zg8.1 hi).1
      rw[Bool.true_and,Bool.true_and];have hrs:(rp.extract v.size rp.size).size=rp.size - v.size:=zk _ hle (Nat.le_refl _);rw[hrs]
      by_cases hq:rp.size≤v.size
      ·rw[decide_eq_true hq,decide_eq_true (show rp.size - v.size=0 by omega),Bool.true_or,Bool.true_or]
      ·rw[decide_eq_false hq,decide_eq_false (show ¬rp.size - v.size=0 by omega),Bool.false_or,Bool.false_or,zbe _ (by omega),Nat.add_zero]
   rw[key]
  ·have e:(decide ((parseT m s).1.form=1)||decide ((parseT m s).1.form=2))=false:=by
    rw[decide_eq_false (fun g=>hf (.inl g)),decide_eq_false (fun g=>hf (.inr g))];rfl
   rw[e];rfl
 ·rw[decide_eq_false h];rfl
theorem zom {v m s:ByteArray} (hv:zaZ v=true) (h:zb9 v m s=true):zhg v m s=zdX v m s:=by
 obtain ⟨v2,_,_⟩:=zeu hv;obtain ⟨i,h1,h2,h3,h4,h5,h6⟩:=zgQ hv h;unfold zb9 at h;simp only[Bool.and_eq_true,Bool.or_eq_true,decide_eq_true_eq] at h;obtain ⟨g1,gf,_⟩:=h;obtain ⟨hp,hE,_⟩:=ziX g1 gf;have hi:rAt m s=i:=by
  unfold rAt
  rcases h6 with ⟨k1,rfl⟩|⟨k1,_,rfl⟩
  ·rw[if_neg]
   rintro ⟨_,g⟩;rw[k1] at g
   cases g
  ·rw[if_pos ⟨g1,k1⟩]
 have hz:¬(zcT m s).size=0:=by
  intro hz;rw[if_pos hz] at hp;rw[hp] at h3;have:zgv.size=1:=rfl
  omega
 rw[if_neg hz] at hp;unfold zhg zdX zfE;rw[hE,hi,h1,Int.toNat_natCast,←hp,←h4]
end Go.Proofs.YtbnafbdhomdcoaaGreatDoor
namespace Go.Proofs.YtbnafbdhomdcoaaGreatDoor
def okB (l:List UInt8) (k:Nat):Bool:=
 if k=0 then decide (0≤zaI (l.getD 0 0))
 else if k=1 then decide (0≤zaI (l.getD 1 0))
 else if k=2 then decide (0≤zaI (l.getD 2 0))||(decide (l.getD 2 0=61)&&decide (zm (l.getD 1 0) % 16=0))
 else (decide (0≤zaI (l.getD 3 0))&&!decide (l.getD 2 0=61))||(decide (l.getD 3 0=61)&&(decide (l.getD 2 0=61)||decide (zm (l.getD 2 0) % 4=0)))
theorem zlz (l:List UInt8) {k:Nat} (hk:k<l.length) (h4:k<4):zbF (l.take (k+1))=(zbF (l.take k)&&okB l k):=by
 match k,l,hk with
 |0,a::r,_=>simp[zbF,okB]
 |1,a::b::r,_=>simp[zbF,okB]
 |2,a::b::c::r,_=>simp[zbF,okB]
 |3,a::b::c::d::r,_=>simp[zbF,okB]
 |k+4,_,_=>omega
theorem zlc {l:List UInt8}:∀{k:Nat} (j:Nat),k+j≤l.length→k+j≤4→zbF (l.take k)=false→zbF (l.take (k+j))=false
 |_,0,_,_,h=>h
 |k,j+1,h1,h4,h=>by
  have:=zlc (l:=l) (k:=k) j (by omega) (by omega) h;show zbF (l.take (k+j+1))=false;rw[zlz l (by omega) (by omega),this,Bool.false_and]
theorem zmg {l:List UInt8} (h0:l≠[]) (h:l.length<4):b64 l=none:=by
 match l,h0,h with
 |[],h0,_=>exact absurd rfl h0
 |[_],_,_=>rfl
 |[_,_],_,_=>rfl
 |[_,_,_],_,_=>rfl
 |_::_::_::_::_,_,h=>simp at h;omega
theorem zuS {l:List UInt8} {k:Nat} (h0:l≠[]) (hk:k≤l.length) (h4:k≤4) (hb:zbF (l.take k)=false):b64 l=none:=by
 by_cases h:l.length<4
 ·exact zmg h0 h
 ·match l,h with
  |a::b::c::d::r,_=>
   have hf:=zlc (l:=a::b::c::d::r) (4 - k) (by simp;omega) (by omega) hb;rw[show k+(4 - k)=4 by omega] at hf;have hg:=zl5 a b c d;rw[show (a::b::c::d::r).take 4=[a,b,c,d] from rfl] at hf;rw[hf] at hg;unfold b64;rw[←hg]
   rfl
  |[],h=>exact absurd (by simp) h
  |[_],h=>exact absurd (by simp) h
  |[_,_],h=>exact absurd (by simp) h
  |[_,_,_],h=>exact absurd (by simp) h
def zhL (l acc:List UInt8) (ended:Bool):Option (List UInt8):=if ended=true then (if l=[] then some acc else none) else (b64 l).map (acc++·)
theorem zpB (l:List UInt8):zhL l [] false=b64 l:=by
 unfold zhL
 cases b64 l<;>simp
theorem zuk (acc:List UInt8) (e:Bool):zhL [] acc e=some acc:=by
 cases e<;>simp[zhL,b64]
theorem zrU {l:List UInt8} (h:l≠[]) (acc:List UInt8):zhL l acc true=none:=by simp[zhL,h]
theorem zo2 {l:List UInt8} {k:Nat} (h0:l≠[]) (hk:k≤l.length) (h4:k≤4) (hb:zbF (l.take k)=false) (acc:List UInt8):zhL l acc false=none:=by
 unfold zhL;rw[zuS h0 hk h4 hb]
 rfl
theorem zqz {l:List UInt8} (h0:l≠[]) (h:l.length<4) (acc:List UInt8):zhL l acc false=none:=by
 unfold zhL;rw[zmg h0 h]
 rfl
theorem zss {a b c d:UInt8} {r:List UInt8} (h:zbF [a,b,c,d]=true) (acc:List UInt8):zhL (a::b::c::d::r) acc false=zhL r (acc++zdn a b c d) (decide (d=61)):=by
 have hg:=zl5 a b c d;rw[if_pos h] at hg;have e:b64 (a::b::c::d::r)=(match zc4 a b c d with|none=>none|some (o,false)=>(b64 r).map (o++·)|some (o,true)=>if r=[] then some o else none):=by
  rw[b64]
  cases zc4 a b c d with
  |none=>rfl
  |some x=>obtain ⟨o,e⟩:=x;cases e<;>rfl
 unfold zhL;rw[e,←hg]
 by_cases hd:d=61
 ·rw[decide_eq_true hd]
  by_cases hr:r=[]
  ·simp[hr]
  ·simp[hr]
 ·rw[decide_eq_false hd]
  cases b64 r<;>simp
theorem zsG {a b c d:UInt8} (h:zbF [a,b,c,d]=true):0≤zaI a∧0≤zaI b∧((¬c=61∧¬d=61∧0≤zaI c∧0≤zaI d)∨(¬c=61∧d=61∧0≤zaI c)∨(c=61∧d=61)):=by
 have h61:=zg4;simp only[zbF,Bool.and_eq_true,Bool.or_eq_true,decide_eq_true_eq,Bool.not_eq_true',decide_eq_false_iff_not] at h;obtain ⟨⟨⟨ha,hb⟩,hc⟩,hd⟩:=h;refine ⟨ha,hb,?_⟩
 by_cases c61:c=61
 ·by_cases d61:d=61
  ·exact .inr (.inr ⟨c61,d61⟩)
  ·rcases hd with ⟨_,hd⟩|⟨hd,_⟩
   ·exact absurd c61 hd
   ·exact absurd hd d61
 ·have hc':0≤zaI c:=by
   rcases hc with hc|⟨hc,_⟩
   ·exact hc
   ·exact absurd hc c61
  by_cases d61:d=61
  ·exact .inr (.inl ⟨c61,d61,hc'⟩)
  ·refine .inl ⟨c61,d61,hc',?_⟩
   rcases hd with ⟨hd,_⟩|⟨hd,_⟩
   ·exact hd
   ·exact absurd hd d61
theorem znH {c:UInt8} (h:0≤zaI c):zaI c=(zm c:Int)∧zm c<64:=by
 have:=zeM c;unfold zm
 omega
theorem zle (s:ByteArray) (i k:Nat):(s.extract i (i+k)).data.toList=(s.data.toList.drop i).take k:=by
 rw[ByteArray.data_extract,Array.toList_extract];simp
theorem zkt (s:ByteArray) (i:Nat):(s.data.toList.drop i).length=s.size - i:=by rw[List.length_drop,size_eq]
theorem zvs {s:ByteArray} {i:Nat} (h:i<s.size):s.data.toList.drop i≠[]:=fun e=>by
 have:=zkt s i;rw[e] at this;simp at this
 omega
theorem zl8 {s:ByteArray} {i:Nat} (h:s.size≤i):s.data.toList.drop i=[]:=List.drop_eq_nil_of_le (by rw[size_eq];exact h)
theorem zsF {s:ByteArray} {i:Nat} (h:i+4≤s.size):s.data.toList.drop i=s.data.toList.getD i 0::s.data.toList.getD (i+1) 0::s.data.toList.getD (i+2) 0::s.data.toList.getD (i+3) 0::s.data.toList.drop (i+4):=by
 have hz:=size_eq s;have e:∀j,j<s.size→s.data.toList.drop j=s.data.toList.getD j 0::s.data.toList.drop (j+1):=fun j hj=>by
  have hj':j<s.data.toList.length:=by omega
  rw[List.drop_eq_getElem_cons hj',List.getD_eq_getElem?_getD,List.getElem?_eq_getElem hj']
  rfl
 rw[e i (by omega),e (i+1) (by omega),e (i+2) (by omega),e (i+3) (by omega)]
end Go.Proofs.YtbnafbdhomdcoaaGreatDoor
namespace Go.Proofs.YtbnafbdhomdcoaaGreatDoor
open Go.RowKit Go.Shelf Go.Lib
theorem zrI (c:Int):zeo c=(T5.isDgt c||T5.isLet c):=by
 rw[Bool.eq_iff_iff];simp[zeo,T5.isDgt,T5.isLet]
 omega
set_option maxRecDepth 20000 in
theorem zs5 (c:Int) (w:World):
  Calls Tryz.prog 118 #[.int .u8 c] w fun e w'=>e= .returned (.bool (sign c))∧w=w':=by
 have HD:=hid (fun w=>T5.rDigit_any c w);have HL:=hid (fun w=>T5.rLetter_any c w);have HAL:=zrI c
 cases hd:T5.isDgt c
 ·cases hl:T5.isLet c
  ·rw[hd,hl] at HAL
   have HA:=hid (show zeo c=false from HAL);rw[hd] at HD;rw[hl] at HL;clear HAL hd hl
   go_enter Tryz.func118,Tryz.ntmps118
   go_wp2_with fail
   refine (HD.out _).mono ?_;rintro e w' ⟨rfl,rfl⟩
   go_wp2_with fail
   refine (HL.out _).mono ?_;rintro e w' ⟨rfl,rfl⟩
   go_wp2
   have hsz:oth.size≤15:=by rw[zkx];exact Nat.le_refl _
   have hsz':15≤oth.size:=by rw[zkx];exact Nat.le_refl _
   go_loop [4] (fun i=>∃k:Nat,k≤oth.size∧i= .int .i64 k∧zbx (fun b=>!decide (b=c)) oth k) (fun i=>oth.size - (RowKit.intOf i).toNat)
   case atStart=>exact ⟨0,by omega,rfl,zbx.zero _ _⟩
   case round=>
    obtain ⟨k,hk,rfl,hall⟩:=hrel
    by_cases hlt:k<oth.size
    ·have hb:((((⟨#[33,35,36,37,38,39,42,43,45,46,94,95,96,124,126]⟩:ByteArray)[k]'hlt).toNat:Nat):Int)=bt oth k:=@zE oth k hlt
     have hlt15:k<15:=by omega
     by_cases hc:bt oth k=c
     ·have hcc:(bt oth k==c)=true:=by simpa using hc
      have HC:=hid hc;clear hc
      go_wp2
      go_ret
      exact ⟨zd (by rw[sign,zaB hlt (by simp[HC.out])];simp),rfl⟩
     ·have hcc:(bt oth k==c)=false:=by simpa using hc
      have HC:=hid hc;clear hc
      go_wp2
      go_round
      case rel=>exact ⟨k+1,by omega,by go_num,hall.succ (by simpa using HC.out)⟩
      case measure=>simp[RowKit.intOf];omega
    ·obtain rfl:k=oth.size:=by omega
     go_wp2
     go_ret
     exact ⟨zd (by rw[sign,HA.out,zaU hall];rfl),rfl⟩
  ·rw[hd,hl] at HAL
   have HA:=hid (show sign c=true by rw[sign,HAL];rfl);rw[hd] at HD;rw[hl] at HL;clear HAL hd hl
   go_enter Tryz.func118,Tryz.ntmps118
   go_wp2_with fail
   refine (HD.out _).mono ?_;rintro e w' ⟨rfl,rfl⟩
   go_wp2_with fail
   refine (HL.out _).mono ?_;rintro e w' ⟨rfl,rfl⟩
   go_wp2
   go_ret
   exact ⟨zd HA.out.symm,rfl⟩
 ·rw[hd] at HAL
  have HA:=hid (show sign c=true by rw[sign,HAL];rfl);rw[hd] at HD;clear HAL hd
  go_enter Tryz.func118,Tryz.ntmps118
  go_wp2_with fail
  refine (HD.out _).mono ?_;rintro e w' ⟨rfl,rfl⟩
  go_wp2
  go_ret
  exact ⟨zd HA.out.symm,rfl⟩
set_option maxRecDepth 20000 in
theorem zeV (s:ByteArray) (w:World) (hs:s.size≤maxLen):
  Calls Tryz.prog 80 #[.string s] w fun e w'=>e= .returned (.bool (zbn s))∧w=w':=by
 unfold maxLen at hs
 go_enter Tryz.func80,Tryz.ntmps80
 go_wp2
 go_loop [3] (fun i=>∃k:Nat,k≤s.size∧i= .int .i64 k∧zbx sign s k) (fun i=>s.size - (RowKit.intOf i).toNat)
 case atStart=>exact ⟨0,by omega,rfl,zbx.zero _ _⟩
 case round=>
  obtain ⟨k,hk,rfl,hall⟩:=hrel
  by_cases hlt:k<s.size
  ·have hb:=@zE s k hlt
   go_wp2_with (go_at_call 118;refine (zs5 _ _).mono ?_;rintro e w' ⟨rfl,rfl⟩)
   ·have h:(!sign (bt s k))=true:=by assumption
    go_ret
    exact ⟨zd (by rw[zbn,zaB hlt (by simpa using h)];rfl),rfl⟩
   ·have h:(!sign (bt s k))=false:=by assumption
    go_round
    case rel=>exact ⟨k+1,by omega,by go_num,hall.succ (by simpa using h)⟩
    case measure=>simp[RowKit.intOf];omega
  ·obtain rfl:k=s.size:=by omega
   go_wp2
   go_ret
   exact ⟨zd (by rw[zbn,zaU hall,zo];simp),rfl⟩
theorem zfI (c:Int) (w:World):
  Calls Tryz.prog 125 #[.int .u8 c] w fun e w'=>e= .returned (.bool (za4 c))∧w=w':=by
 have hs:c=9∨(c<32∧(c==9)=false)∨c=127∨(32≤c∧(c==9)=false∧(c !=127)=true):=by simp only[beq_eq_false_iff_ne,bne_iff_ne,ne_eq];omega
 rcases hs with rfl|⟨h1,h2⟩|rfl|⟨h1,h2,h3⟩
 all_goals
  go_enter Tryz.func125,Tryz.ntmps125
  go_wp2
  go_ret
  first|exact ⟨rfl,rfl⟩|exact ⟨zd (zhO h1 h2).symm,rfl⟩|exact ⟨zd (zgu h1 h3).symm,rfl⟩
set_option maxRecDepth 20000 in
theorem zhQ (s:ByteArray) (w:World) (hs:s.size≤maxLen):
  Calls Tryz.prog 84 #[.string s] w fun e w'=>e= .returned (.bool (zcb s))∧w=w':=by
 unfold maxLen at hs
 go_enter Tryz.func84,Tryz.ntmps84
 go_wp2
 go_loop [3] (fun i=>∃k:Nat,k≤s.size∧i= .int .i64 k∧zbx za4 s k) (fun i=>s.size - (RowKit.intOf i).toNat)
 case atStart=>exact ⟨0,by omega,rfl,zbx.zero _ _⟩
 case round=>
  obtain ⟨k,hk,rfl,hall⟩:=hrel
  by_cases hlt:k<s.size
  ·have hb:=@zE s k hlt
   go_wp2_with (go_at_call 125;refine (zfI _ _).mono ?_;rintro e w' ⟨rfl,rfl⟩)
   ·have h:(!za4 (bt s k))=true:=by assumption
    go_ret
    exact ⟨zd (by rw[zcb,zaB hlt (by simpa using h)]),rfl⟩
   ·have h:(!za4 (bt s k))=false:=by assumption
    go_round
    case rel=>exact ⟨k+1,by omega,by go_num,hall.succ (by simpa using h)⟩
    case measure=>simp[RowKit.intOf];omega
  ·obtain rfl:k=s.size:=by omega
   go_wp2
   go_ret
   exact ⟨zd (by rw[zcb,zaU hall]),rfl⟩
theorem zf5 (c:Int) (w:World):
  Calls Tryz.prog 212 #[.int .u8 c] w fun e w'=>e= .returned (.bool (zct c))∧w=w':=by
 have hs:c=32∨c=9∨((c==32)=false∧(c==9)=false):=by simp only[beq_eq_false_iff_ne,ne_eq];omega
 rcases hs with rfl|rfl|⟨h1,h2⟩
 all_goals
  go_enter Tryz.func212,Tryz.ntmps212
  go_wp2
  go_ret
  first|exact ⟨rfl,rfl⟩|exact ⟨zd (zo0 h1 h2).symm,rfl⟩
set_option maxRecDepth 20000 in
theorem zlf (s:ByteArray) (w:World) (hs:s.size≤maxLen):
  Calls Tryz.prog 128 #[.string s] w fun e w'=>e= .returned (.string (zaP s))∧Below w.heap.size w w':=by
 unfold maxLen at hs;have hcv:=zdW w s;have hbw:=Lib.bytesWorld_size w 5 s;have hba:=zbM.of_conv w 5 s;have hbl:=zeW w 5 s;generalize Lib.bytesWorld w 5 s=w1 at hcv hbw hba hbl;generalize grownCap w s.size 0 5=cap at hcv;have HW:=hid hbw;clear hbw
 go_enter Tryz.func128,Tryz.ntmps128
 go_wp2
 go_loopw [4] (fun i wr=>∃k:Nat,k≤s.size∧i= .int .i64 k∧zbM wr w.heap.size (zdP zdO s.data.toList k)∧Below w.heap.size w wr∧w.heap.size<wr.heap.size) (fun i _=>s.size - (RowKit.intOf i).toNat)
 case atStart=>exact ⟨0,by omega,rfl,by rw[zeP];exact hba,hbl,by have:=HW.out;omega⟩
 case round=>
  obtain ⟨k,hk,rfl,hb,hbl',hlt'⟩:=hrel
  by_cases hlt:k<s.size
  ·have hkl:k<s.data.toList.length:=by rw[size_eq];exact hlt
   have hc:=hb.cell k (by rw[zU];exact hkl);have hf:=hb.free k (by rw[zU];exact hkl);rw[zeA zdO _ _ hkl] at hc;change wr.cell? _=some (.int .u8 (bt s k)) at hc
   by_cases hu:65≤bt s k∧bt s k≤90
   ·obtain ⟨hu1,hu2⟩:=hu
    have h1:=zdQ s k
    go_wp2
    go_roundw
    case rel=>exact ⟨k+1,by omega,by go_num,by rw[zeN zdO _ _ hkl];exact hb.set (by rw[zU];exact hkl) _ _ (by unfold bt;rw[ziB ⟨hu1,hu2⟩]),hbl'.setCell (Nat.le_refl _) _,by simpa using hlt'⟩
    case measure=>simp[RowKit.intOf];omega
   ·have hsame:=zeS zdO _ _ hkl (zgO hu)
    have HS:=hid hsame;clear hsame;have hu':bt s k<65∨90<bt s k:=by omega
    clear hu
    rcases hu' with hu|hu
    all_goals
     go_wp2
     go_roundw
     case rel=>exact ⟨k+1,by omega,by go_num,by rw[HS.out];exact hb,hbl',hlt'⟩
     case measure=>simp[RowKit.intOf];omega
  ·obtain rfl:k=s.size:=by omega
   have hcv:=hb.conv Tryz.underlying80 Tryz.underlying5 Tryz.underlying9 cap;rw[zU,size_eq,←size_eq s,zfC,size_eq] at hcv
   go_wp2
   go_ret
   exact ⟨rfl,hbl'⟩
theorem zrR (a b:ByteArray) (w:World) (ha:a.size≤maxLen) (hb:b.size≤maxLen):
  Calls Tryz.prog 87 #[.string a,.string b] w fun e w'=>e= .returned (.bool (zbu a b))∧Below w.heap.size w w':=by
 go_enter Tryz.func87,Tryz.ntmps87
 go_wp2_with fail
 refine (zlf a _ ha).mono ?_;rintro e w1 ⟨rfl,hb1⟩
 go_wp2_with fail
 refine (zlf b _ hb).mono ?_;rintro e w2 ⟨rfl,hb2⟩
 go_wp2
 go_ret
 exact ⟨zd (by rw[zbu,←zaj]),hb1.trans (hb2.mono hb1.size)⟩
set_option maxRecDepth 20000 in
set_option maxHeartbeats 1000000 in
theorem zr0 (s:ByteArray) (w:World) (hs:s.size≤maxLen):
  Calls Tryz.prog 178 #[.string s] w fun e w'=>e= .returned (.string (zes s))∧w=w':=by
 unfold maxLen at hs
 go_enter Tryz.func178,Tryz.ntmps178
 go_wp2
 go_loop [0] (fun v=>∃t:ByteArray,v= .string t∧t.size≤s.size∧zd8 t=zd8 s) (fun v=>match v with| .string t=>t.size|_=>0)
 case atStart=>exact ⟨s,rfl,by omega,rfl⟩
 case round=>
  obtain ⟨t,rfl,hts,ht⟩:=hrel;have HT:=hid ht;clear ht
  by_cases hmore:0<t.size∧zct (bt t 0)=true
  ·obtain ⟨h0,hbl⟩:=hmore
   have he:t.toList.isEmpty=false:=by rw[zo];exact decide_eq_false (by omega)
   have hb:=@zE t 0 h0;have hsz:=zk t (a:=1) (b:=t.size) (by omega) (by omega);have hsz':(t.extract 1 t.size).size<t.size:=by omega
   have HS:=hid (zhS t h0 hbl);clear hsz
   go_wp2_with (go_at_call 212;refine (zf5 _ _).mono ?_;rintro e w' ⟨rfl,rfl⟩)
   go_round
   case rel=>exact ⟨_,rfl,by omega,by rw[HS.out,HT.out]⟩
   case measure=>exact hsz'
  ·have H2:=hid (zhP t (by
    by_cases h0:0<t.size
    ·cases h:zct (bt t 0)
     ·exact .inr rfl
     ·exact absurd ⟨h0,h⟩ hmore
    ·exact .inl (by omega)))
   have hcase:t.size=0∨(0<t.size∧zct (bt t 0)=false):=by
    by_cases h0:0<t.size
    ·refine .inr ⟨h0,?_⟩
     cases h:zct (bt t 0)
     ·rfl
     ·exact absurd ⟨h0,h⟩ hmore
    ·exact .inl (by omega)
   clear hmore;have fin:∀u:ByteArray,zd3 u=zd3 t→(u.size=0∨zct (bt u (u.size - 1))=false)→u=zes s:=fun u h3 h4=>zn0 HT.out H2.out h3 h4
   have FIN:=hid fin;clear fin HT H2
   rcases hcase with hz|⟨h0,hbl⟩
   ·have he:t.toList.isEmpty=true:=by rw[zo];exact decide_eq_true (by omega)
    have hz':¬0<t.size:=by omega
    have HZ:=hid hz;clear hz
    go_wp2
    go_loop [0] (fun v=>v= .string t) (fun _=>0)
    case atStart=>exact rfl
    case round=>
     subst hrel
     go_wp2
     go_ret
     exact ⟨zbz (FIN.out t rfl (.inl HZ.out)),rfl⟩
   ·have he:t.toList.isEmpty=false:=by rw[zo];exact decide_eq_false (by omega)
    have hb:=@zE t 0 h0
    go_wp2_with (go_at_call 212;refine (zf5 _ _).mono ?_;rintro e w' ⟨rfl,rfl⟩)
    clear hb hbl h0 he
    go_loop [0] (fun v=>∃u:ByteArray,v= .string u∧u.size≤t.size∧zd3 u=zd3 t) (fun v=>match v with| .string t=>t.size|_=>0)
    case atStart=>exact ⟨t,rfl,by omega,rfl⟩
    case round=>
     obtain ⟨u,rfl,hut,hu⟩:=hrel;have HU:=hid hu;clear hu
     by_cases h0:0<u.size
     ·have he2:u.toList.isEmpty=false:=by rw[zo];exact decide_eq_false (by omega)
      have hb:=@zE u (u.size - 1) (by omega);have hi:((u.size:Int) - 1).toNat=u.size - 1:=by omega
      cases hbl:zct (bt u (u.size - 1))
      ·go_wp2_with (go_at_call 212;refine (zf5 _ _).mono ?_;rintro e w' ⟨rfl,rfl⟩)
       go_ret
       exact ⟨zbz (FIN.out u HU.out (.inr hbl)),rfl⟩
      ·have hsz:=zk u (a:=0) (b:=u.size - 1) (by omega) (by omega)
       have hsz':(u.extract 0 (u.size - 1)).size<u.size:=by omega
       have HS:=hid (zk2 u h0 hbl);clear hsz
       go_wp2_with (go_at_call 212;refine (zf5 _ _).mono ?_;rintro e w' ⟨rfl,rfl⟩)
       go_round
       case rel=>exact ⟨_,rfl,by omega,by rw[HS.out,HU.out]⟩
       case measure=>exact hsz'
     ·have he2:u.toList.isEmpty=true:=by rw[zo];exact decide_eq_true (by omega)
      go_wp2
      go_ret
      exact ⟨zbz (FIN.out u HU.out (.inl (by omega))),rfl⟩
theorem zhr (w:World):zZ (w.alloc (.cells #[] 5)) w.heap.size (.slice (some ⟨w.heap.size,0,none⟩) 0 0) []:=World.ownsRow_lit w #[] 0 (Nat.le_refl _) (by unfold maxLen;omega) rfl
theorem zhs (w:World):(w.alloc (.cells #[] 9)).ownsRow w.heap.size 9 1 (.slice (some ⟨w.heap.size,0,none⟩) 0 0) 0 []:=World.ownsRow_lit w #[] 0 (Nat.le_refl _) (by unfold maxLen;omega) rfl
def zpS (s:ByteArray) (k:Nat):UInt8:=s.data.toList.getD k 0
theorem zvc {s:ByteArray} {k:Nat} (h:k<s.size):zpS s k=s[k]:=by
 unfold zpS;rw[List.getD_eq_getElem?_getD,Array.getElem?_toList,Array.getElem?_eq_getElem h]
 rfl
theorem zrw (s:ByteArray) (k:Nat) (h:k<s.size):((zpS s k).toNat:Int)=bt s k:=by
 rw[zvc h];exact zE h
theorem zcg (c:Int):∀u∈[Value.int .u8 c],u.oneCell'=true:=by
 intro u hu
 rcases List.mem_singleton.1 hu with rfl
 rfl
theorem zuc:zce.size=64:=rfl
theorem zv2 {k:Nat} (h:k<64):((((⟨#[65,66,67,68,69,70,71,72,73,74,75,76,77,78,79,80,81,82,83,84,85,86,87,88,89,90,97,98,99,100,101,102,103,104,105,106,107,108,109,110,111,112,113,114,115,116,117,118,119,120,121,122,48,49,50,51,52,53,54,55,56,57,43,47]⟩:ByteArray)[k]'(show k<64 from h)).toNat:Nat):Int)=bt zce k:=@zE zce k h
set_option maxRecDepth 20000 in
theorem zoi (k:Nat) (w:World) (hk:k<64):
  Calls Tryz.prog 180 #[.int .i64 (k:Int)] w fun e w'=>e= .returned (.int .u8 (bt zce k))∧w=w':=by
 have hb:=zv2 hk;have hki:(k:Int)<64:=by omega
 go_enter Tryz.func180,Tryz.ntmps180
 go_wp2
 go_ret
 exact ⟨rfl,rfl⟩
def ofC (c:Int):Int:=za7 zce c
theorem zwt (c:UInt8):ofC (c.toNat:Int)=zaI c:=rfl
set_option maxRecDepth 20000 in
theorem zvt (c:Int) (w:World):
  Calls Tryz.prog 130 #[.int .u8 c] w fun e w'=>e= .returned (.int .i64 (ofC c))∧w=w':=by
 have HZ:=hid zuc
 go_enter Tryz.func130,Tryz.ntmps130
 go_wp2
 go_loop [3] (fun v=>∃k:Nat,k≤64∧v= .int .i64 k∧zgr (fun j=>!decide (bt zce j=c)) 0 k) (fun v=>64 - (RowKit.intOf v).toNat)
 case atStart=>exact ⟨0,by omega,rfl,zgr.zero _ _⟩
 case round=>
  obtain ⟨k,hk,rfl,hall⟩:=hrel
  by_cases hlt:k<64
  ·have hki:(k:Int)<64:=by omega
   by_cases hc:bt zce k=c
   ·have hcc:(bt zce k==c)=true:=by simpa using hc
    have HC:=hid (zj9 hall (by rw[HZ.out];exact hlt) hc);clear hc hall
    go_wp2_with fail
    refine (zoi k _ hlt).mono ?_;rintro e w' ⟨rfl,rfl⟩
    go_wp2
    go_ret
    exact ⟨zp (by unfold ofC;rw[HC.out]),rfl⟩
   ·have hcc:(bt zce k==c)=false:=by simpa using hc
    have HC:=hid hc;clear hc
    go_wp2_with fail
    refine (zoi k _ hlt).mono ?_;rintro e w' ⟨rfl,rfl⟩
    go_wp2
    go_round
    case rel=>exact ⟨k+1,by omega,by go_num,hall.succ (by simpa using HC.out)⟩
    case measure=>simp[RowKit.intOf];omega
  ·obtain rfl:k=64:=by omega
   have HN:=hid (zhy (s:=zce) (c:=c) (by rw[HZ.out];exact hall));clear hall
   go_wp2
   go_ret
   exact ⟨zp (by unfold ofC;rw[HN.out]),rfl⟩
def gB (g:ByteArray) (k:Nat):UInt8:=g.data.toList.getD k 0
theorem zwj (g:ByteArray) (k:Nat):((gB g k).toNat:Int)=bt g k:=by
 unfold gB bt
 rfl
theorem zfs (g:ByteArray) (k:Nat):ofC (bt g k)=zaI (gB g k):=by rw[←zwj,zwt]
def ziA (g:ByteArray) (k:Nat):Bool:=zbF (g.data.toList.take k)
theorem zs9 (g:ByteArray):ziA g 0=true:=rfl
theorem zsR {g:ByteArray} {k:Nat} (hk:k<g.size) (h4:k<4) (h:ziA g k=true):ziA g (k+1)=okB g.data.toList k:=by
 unfold ziA at *;rw[zlz _ (by rw[size_eq];exact hk) h4,h,Bool.true_and]
theorem zsX {g:ByteArray} {k:Nat} (hk:k<g.size) (h4:g.size≤4) (h:ziA g (k+1)=false):zbF g.data.toList=false:=by
 have hz:=size_eq g;have:=zlc (l:=g.data.toList) (k:=k+1) (g.size - (k+1)) (by omega) (by omega) h;rw[show k+1+(g.size - (k+1))=g.size by omega,List.take_of_length_le (by omega)] at this;exact this
theorem ztz (g:ByteArray):ziA g g.size=zbF g.data.toList:=by
 unfold ziA;rw[List.take_of_length_le (by rw[size_eq];exact Nat.le_refl _)]
theorem zjX (g:ByteArray) (k:Nat) (c:UInt8):gB g k=c↔bt g k=(c.toNat:Int):=by
 rw[←zwj]
 constructor
 ·rintro rfl;rfl
 ·intro h;exact UInt8.toNat_inj.1 (by omega)
theorem zcU {c v:Int} (h:ofC c=v) (w:World):
  Calls Tryz.prog 130 #[.int .u8 c] w fun e w'=>e= .returned (.int .i64 v)∧w=w':=h▸zvt c w
theorem ok0 (g:ByteArray):okB g.data.toList 0=decide (0≤ofC (bt g 0)):=by rw[zfs];rfl
theorem ok1 (g:ByteArray):okB g.data.toList 1=decide (0≤ofC (bt g 1)):=by rw[zfs];rfl
theorem zw4 (g:ByteArray) (k:Nat):decide (gB g k=61)=decide (bt g k=61):=by
 have h:=zjX g k 61
 by_cases e:gB g k=61
 ·rw[decide_eq_true e,decide_eq_true (show bt g k=61 from h.1 e)]
 ·rw[decide_eq_false e,decide_eq_false (show ¬bt g k=61 from fun x=>e (h.2 x))]
theorem ok2 (g:ByteArray):okB g.data.toList 2=(decide (0≤ofC (bt g 2))||(decide (bt g 2=61)&&decide ((ofC (bt g 1)).toNat % 16=0))):=by
 rw[zfs,zfs,←zw4]
 rfl
theorem ok3 (g:ByteArray):okB g.data.toList 3=((decide (0≤ofC (bt g 3))&&!decide (bt g 2=61))||(decide (bt g 3=61)&&(decide (bt g 2=61)||decide ((ofC (bt g 2)).toNat % 4=0)))):=by
 rw[zfs,zfs,←zw4,←zw4]
 rfl
theorem zxn:ofC 61=-1:=by decide +kernel
theorem zgb {g:ByteArray} {k:Nat} (hk:k<g.size) (h4:k<4) (h:ziA g (k+1)=true):ziA g k=true∧okB g.data.toList k=true:=by
 unfold ziA at *;rw[zlz _ (by rw[size_eq];exact hk) h4] at h;exact Bool.and_eq_true_iff.1 h
theorem zwy {g:ByteArray} (hz:1≤g.size) (h:ziA g 1=true):0≤ofC (bt g 0):=by
 have:=(zgb (k:=0) (by omega) (by omega) h).2;rw[ok0] at this;exact of_decide_eq_true this
theorem zxi {g:ByteArray} (hz:2≤g.size) (h:ziA g 2=true):0≤ofC (bt g 1):=by
 have:=(zgb (k:=1) (by omega) (by omega) h).2;rw[ok1] at this;exact of_decide_eq_true this
theorem zxv {g:ByteArray} (hz:3≤g.size) (h:ziA g 3=true):0≤ofC (bt g 2)∨bt g 2=61:=by
 have:=(zgb (k:=2) (by omega) (by omega) h).2;rw[ok2] at this;simp only[Bool.or_eq_true,Bool.and_eq_true,decide_eq_true_eq] at this
 rcases this with h|⟨h,_⟩
 ·exact .inl h
 ·exact .inr h
theorem ztg {c:Int} (h:0≤ofC c):(c==61)=false:=by
 rw[beq_eq_false_iff_ne];rintro rfl;rw[zxn] at h
 omega
set_option maxRecDepth 20000 in
set_option maxHeartbeats 4000000 in
theorem zjx (g:ByteArray) (w:World) (h4:g.size≤4):
  Calls Tryz.prog 129 #[.string g] w fun e w'=>e= .returned (.bool (zbF g.data.toList))∧w=w':=by
 go_enter Tryz.func129,Tryz.ntmps129
 go_wp2
 go_loop [3] (fun i=>∃k:Nat,k≤g.size∧i= .int .i64 k∧Hid (ziA g k=true)) (fun i=>g.size - (RowKit.intOf i).toNat)
 case atStart=>exact ⟨0,by omega,rfl,hid (zs9 g)⟩
 case round=>
  obtain ⟨k,hk,rfl,HB⟩:=hrel
  by_cases hlt:k<g.size
  ·have HN:=hid (zsR hlt (by omega) HB.out)
   have HS:=hid (fun h=>zsX hlt h4 h);have hb:=@zE g k hlt;have hcase:k=0∨k=1∨k=2∨k=3:=by omega
   rcases hcase with rfl|rfl|rfl|rfl
   ·obtain ⟨v,hv⟩:∃v,ofC (bt g 0)=v:=⟨_,rfl⟩
    have HV:=hid hv
    by_cases hp:0≤v
    ·have HP:=hid hp
     clear hv
     go_wp2_with fail
     refine (zcU HV.out _).mono ?_;rintro e w' ⟨rfl,rfl⟩
     go_wp2
     go_round
     case rel=>exact ⟨1,by omega,by go_num,hid (by rw[show (1:Nat)=0+1 from rfl,HN.out,ok0,HV.out,decide_eq_true HP.out])⟩
     case measure=>simp[RowKit.intOf];omega
    ·have HP:=hid hp
     by_cases h61:bt g 0=61
     ·have h61b:=beq_iff_eq.2 h61
      have H61:=hid h61;clear hv h61
      go_wp2_with fail
      refine (zcU HV.out _).mono ?_;rintro e w' ⟨rfl,rfl⟩
      go_wp2
      go_ret
      exact ⟨zd (by rw[HS.out (by rw[HN.out,ok0,HV.out,decide_eq_false (show ¬0≤v by have:=HP.out;omega)])]),rfl⟩
     ·have h61b:(bt g 0==61)=false:=beq_eq_false_iff_ne.2 h61
      have H61:=hid h61;clear hv h61
      go_wp2_with fail
      refine (zcU HV.out _).mono ?_;rintro e w' ⟨rfl,rfl⟩
      go_wp2
      go_ret
      exact ⟨zd (by rw[HS.out (by rw[HN.out,ok0,HV.out,decide_eq_false (show ¬0≤v by have:=HP.out;omega)])]),rfl⟩
   ·obtain ⟨v,hv⟩:∃v,ofC (bt g 1)=v:=⟨_,rfl⟩
    have p1:=ztg (zwy (by omega) HB.out);have hb0:=@zE g 0 (by omega);have HV:=hid hv
    by_cases hp:0≤v
    ·have HP:=hid hp
     clear hv
     go_wp2_with fail
     refine (zcU HV.out _).mono ?_;rintro e w' ⟨rfl,rfl⟩
     go_wp2
     go_round
     case rel=>exact ⟨2,by omega,by go_num,hid (by rw[show (2:Nat)=1+1 from rfl,HN.out,ok1,HV.out,decide_eq_true HP.out])⟩
     case measure=>simp[RowKit.intOf];omega
    ·have HP:=hid hp
     by_cases h61:bt g 1=61
     ·have h61b:=beq_iff_eq.2 h61
      have H61:=hid h61;clear hv h61
      go_wp2_with fail
      refine (zcU HV.out _).mono ?_;rintro e w' ⟨rfl,rfl⟩
      go_wp2
      go_ret
      exact ⟨zd (by rw[HS.out (by rw[HN.out,ok1,HV.out,decide_eq_false (show ¬0≤v by have:=HP.out;omega)])]),rfl⟩
     ·have h61b:(bt g 1==61)=false:=beq_eq_false_iff_ne.2 h61
      have H61:=hid h61;clear hv h61
      go_wp2_with fail
      refine (zcU HV.out _).mono ?_;rintro e w' ⟨rfl,rfl⟩
      go_wp2
      go_ret
      exact ⟨zd (by rw[HS.out (by rw[HN.out,ok1,HV.out,decide_eq_false (show ¬0≤v by have:=HP.out;omega)])]),rfl⟩
   ·obtain ⟨v,hv⟩:∃v,ofC (bt g 2)=v:=⟨_,rfl⟩
    have p1:=ztg (zwy (by omega) (zgb (k:=1) (by omega) (by omega) HB.out).1);have hb0:=@zE g 0 (by omega);have q1:=zxi (by omega) HB.out;have p2:=ztg q1;have hb1:=@zE g 1 (by omega);have HV:=hid hv
    by_cases hp:0≤v
    ·have HP:=hid hp
     clear hv q1
     go_wp2_with fail
     refine (zcU HV.out _).mono ?_;rintro e w' ⟨rfl,rfl⟩
     go_wp2
     go_round
     case rel=>exact ⟨3,by omega,by go_num,hid (by rw[show (3:Nat)=2+1 from rfl,HN.out,ok2,HV.out,decide_eq_true HP.out,Bool.true_or])⟩
     case measure=>simp[RowKit.intOf];omega
    ·have HP:=hid hp
     by_cases h61:bt g 2=61
     ·have h61b:=beq_iff_eq.2 h61
      have H61:=hid h61;obtain ⟨u,hu⟩:∃u:Nat,ofC (bt g 1)=u:=⟨(ofC (bt g 1)).toNat,by omega⟩;have HU:=hid hu;clear hv h61 q1 hu
      by_cases hm:u % 16=0
      ·have hmi:(u:Int) % 16=0:=by omega
       have HM:=hid hm;clear hm
       go_wp2_with fail
       refine (zcU HV.out _).mono ?_;rintro e w' ⟨rfl,rfl⟩
       go_wp2_with fail
       refine (zcU HU.out _).mono ?_;rintro e w' ⟨rfl,rfl⟩
       go_wp2
       go_round
       case rel=>exact ⟨3,by omega,by go_num,hid (by rw[show (3:Nat)=2+1 from rfl,HN.out,ok2,HV.out,HU.out,decide_eq_true H61.out,Int.toNat_natCast,decide_eq_true HM.out,Bool.true_and,Bool.or_true])⟩
       case measure=>simp[RowKit.intOf];omega
      ·have hmi:¬(u:Int) % 16=0:=by omega
       have hmb:((u:Int) % 16!=0)=true:=bne_iff_ne.2 hmi;have HM:=hid hm;clear hm
       go_wp2_with fail
       refine (zcU HV.out _).mono ?_;rintro e w' ⟨rfl,rfl⟩
       go_wp2_with fail
       refine (zcU HU.out _).mono ?_;rintro e w' ⟨rfl,rfl⟩
       go_wp2
       go_ret
       exact ⟨zd (by rw[HS.out (by rw[HN.out,ok2,HV.out,HU.out,decide_eq_false (show ¬0≤v by have:=HP.out;omega),Int.toNat_natCast,decide_eq_false HM.out,Bool.and_false,Bool.or_false])]),rfl⟩
     ·have h61b:(bt g 2==61)=false:=beq_eq_false_iff_ne.2 h61
      have H61:=hid h61;clear hv h61 q1
      go_wp2_with fail
      refine (zcU HV.out _).mono ?_;rintro e w' ⟨rfl,rfl⟩
      go_wp2
      go_ret
      exact ⟨zd (by rw[HS.out (by rw[HN.out,ok2,HV.out,decide_eq_false (show ¬0≤v by have:=HP.out;omega),decide_eq_false H61.out,Bool.false_and,Bool.or_false])]),rfl⟩
   ·obtain ⟨v,hv⟩:∃v,ofC (bt g 3)=v:=⟨_,rfl⟩
    have p1:=ztg (zwy (by omega) (zgb (k:=1) (by omega) (by omega) (zgb (k:=2) (by omega) (by omega) HB.out).1).1);have hb0:=@zE g 0 (by omega);have q1:=zxi (by omega) (zgb (k:=2) (by omega) (by omega) HB.out).1;have p2:=ztg q1;have hb1:=@zE g 1 (by omega);have q2:=zxv (by omega) HB.out;have hb2:=@zE g 2 (by omega);have HV:=hid hv
    by_cases hp:0≤v
    ·have HP:=hid hp
     by_cases h2:bt g 2=61
     ·have h2b:=beq_iff_eq.2 h2
      have H2:=hid h2;have H3:=hid (show ¬bt g 3=61 from fun e=>by rw[←hv,e,zxn] at hp;omega);clear hv h2 q1 q2
      go_wp2_with fail
      refine (zcU HV.out _).mono ?_;rintro e w' ⟨rfl,rfl⟩
      go_wp2
      go_ret
      exact ⟨zd (by rw[HS.out (by rw[HN.out,ok3,HV.out,decide_eq_true H2.out,decide_eq_false H3.out,Bool.not_true,Bool.and_false,Bool.false_and,Bool.or_false])]),rfl⟩
     ·have h2b:(bt g 2==61)=false:=beq_eq_false_iff_ne.2 h2
      have H2:=hid h2;clear hv h2 q1 q2
      go_wp2_with fail
      refine (zcU HV.out _).mono ?_;rintro e w' ⟨rfl,rfl⟩
      go_wp2
      go_round
      case rel=>exact ⟨4,by omega,by go_num,hid (by rw[show (4:Nat)=3+1 from rfl,HN.out,ok3,HV.out,decide_eq_true HP.out,decide_eq_false H2.out,Bool.not_false,Bool.and_true,Bool.true_or])⟩
      case measure=>simp[RowKit.intOf];omega
    ·have HP:=hid hp
     by_cases h61:bt g 3=61
     ·have h61b:=beq_iff_eq.2 h61
      have H61:=hid h61
      by_cases h2:bt g 2=61
      ·have h2b:=beq_iff_eq.2 h2
       have H2:=hid h2;clear hv h2 h61 q1 q2
       go_wp2_with fail
       refine (zcU HV.out _).mono ?_;rintro e w' ⟨rfl,rfl⟩
       go_wp2
       go_round
       case rel=>exact ⟨4,by omega,by go_num,hid (by rw[show (4:Nat)=3+1 from rfl,HN.out,ok3,HV.out,decide_eq_true H61.out,decide_eq_true H2.out,Bool.true_or,Bool.true_and,Bool.or_true])⟩
       case measure=>simp[RowKit.intOf];omega
      ·have h2b:(bt g 2==61)=false:=beq_eq_false_iff_ne.2 h2
       have q3:0≤ofC (bt g 2):=q2.resolve_right h2;have H2:=hid h2;obtain ⟨u,hu⟩:∃u:Nat,ofC (bt g 2)=u:=⟨(ofC (bt g 2)).toNat,by omega⟩;have HU:=hid hu;clear hv h61 q1 q2 q3 hu h2
       by_cases hm:u % 4=0
       ·have hmi:(u:Int) % 4=0:=by omega
        have HM:=hid hm;clear hm
        go_wp2_with fail
        refine (zcU HV.out _).mono ?_;rintro e w' ⟨rfl,rfl⟩
        go_wp2_with fail
        refine (zcU HU.out _).mono ?_;rintro e w' ⟨rfl,rfl⟩
        go_wp2
        go_round
        case rel=>exact ⟨4,by omega,by go_num,hid (by rw[show (4:Nat)=3+1 from rfl,HN.out,ok3,HV.out,HU.out,decide_eq_true H61.out,Int.toNat_natCast,decide_eq_true HM.out,Bool.or_true,Bool.true_and,Bool.or_true])⟩
        case measure=>simp[RowKit.intOf];omega
       ·have hmi:¬(u:Int) % 4=0:=by omega
        have hmb:((u:Int) % 4!=0)=true:=bne_iff_ne.2 hmi;have HM:=hid hm;clear hm
        go_wp2_with fail
        refine (zcU HV.out _).mono ?_;rintro e w' ⟨rfl,rfl⟩
        go_wp2_with fail
        refine (zcU HU.out _).mono ?_;rintro e w' ⟨rfl,rfl⟩
        go_wp2
        go_ret
        exact ⟨zd (by rw[HS.out (by rw[HN.out,ok3,HV.out,HU.out,decide_eq_false (show ¬0≤v by have:=HP.out;omega),decide_eq_false H2.out,Int.toNat_natCast,decide_eq_false HM.out,Bool.false_and,Bool.or_false,Bool.and_false,Bool.or_false])]),rfl⟩
     ·have h61b:(bt g 3==61)=false:=beq_eq_false_iff_ne.2 h61
      have H61:=hid h61;clear hv h61 q1 q2
      go_wp2_with fail
      refine (zcU HV.out _).mono ?_;rintro e w' ⟨rfl,rfl⟩
      go_wp2
      go_ret
      exact ⟨zd (by rw[HS.out (by rw[HN.out,ok3,HV.out,decide_eq_false (show ¬0≤v by have:=HP.out;omega),decide_eq_false H61.out,Bool.false_and,Bool.false_and,Bool.or_false])]),rfl⟩
  ·obtain rfl:k=g.size:=by omega
   have HR:=hid ((ztz g).symm.trans HB.out)
   go_wp2
   go_ret
   exact ⟨zd HR.out.symm,rfl⟩
def zp0 (w:World) (o:Option (List UInt8)) (e:Ending) (w':World):Prop:=∃t p x,e= .returned (.tuple #[.string t,.int .i64 p,.int .i64 x])∧Below w.heap.size w w'∧(match o with|some l=>x=0∧t=⟨l.toArray⟩|none=>x≠0)
theorem zik {w w':World} {o:Option (List UInt8)} {p x:Int} {t:ByteArray} (h:o=none) (hx:x≠0) (hb:Below w.heap.size w w'):zp0 w o (.returned (.tuple #[.string t,.int .i64 p,.int .i64 x])) w':=by
 subst h;exact ⟨t,p,x,rfl,hb,hx⟩
theorem zuD {w w':World} {o:Option (List UInt8)} {p:Int} {l:List UInt8} (h:o=some l) (hb:Below w.heap.size w w'):zp0 w o (.returned (.tuple #[.string ⟨l.toArray⟩,.int .i64 p,.int .i64 0])) w':=by
 subst h;exact ⟨_,p,0,rfl,hb,rfl,rfl⟩
theorem zma {g:ByteArray} (h:g.size=4):g.data.toList=[gB g 0,gB g 1,gB g 2,gB g 3]:=by
 have e:=zsF (s:=g) (i:=0) (by omega);rw[List.drop_zero,zl8 (by omega)] at e;exact e
theorem zqU {s g:ByteArray} {k:Nat} (h:k+4≤s.size) (hg:g=s.extract k (k+4)):s.data.toList.drop k=gB g 0::gB g 1::gB g 2::gB g 3::s.data.toList.drop (k+4):=by
 have hz:g.size=4:=by rw[hg,ByteArray.size_extract];omega
 have e:=zle s k 4;rw[←hg,zma hz] at e;have e2:=List.take_append_drop 4 (s.data.toList.drop k);rw[←e,List.drop_drop] at e2;rw[←e2]
 rfl
theorem zmZ (n:Nat):((UInt8.ofNat n).toNat:Int)=(n:Int) % 256:=by
 rw[UInt8.toNat_ofNat']
 omega
theorem ziL {na nb:Nat} (ha:na<64) (hb:nb<64):([UInt8.ofNat ((na*262144+nb*4096) / 65536)].map zat)=[Value.int .u8 (((na:Int)*262144+(nb:Int)*4096) / 65536)]:=by
 have hx:(na*262144+nb*4096) / 65536<256:=Nat.div_lt_of_lt_mul (by omega);have e:(((na*262144+nb*4096) / 65536:Nat):Int)=((na:Int)*262144+(nb:Int)*4096) / 65536:=by rw[Int.natCast_ediv,Int.natCast_add,Int.natCast_mul,Int.natCast_mul];rfl
 rw[←e];generalize (na*262144+nb*4096) / 65536=q at *;show [Value.int .u8 ((UInt8.ofNat q).toNat:Int)]=_;rw[zmZ,Int.emod_eq_of_lt (by omega) (by omega)]
theorem ziS (na nb nc:Nat):([UInt8.ofNat ((na*262144+nb*4096+nc*64) / 256)].map zat)=[Value.int .u8 (((na:Int)*262144+(nb:Int)*4096+(nc:Int)*64) / 256 % 256)]:=by
 show [Value.int .u8 ((UInt8.ofNat _).toNat:Int)]=_;rw[zmZ,Int.natCast_ediv,Int.natCast_add,Int.natCast_add,Int.natCast_mul,Int.natCast_mul,Int.natCast_mul]
 rfl
theorem zje (na nb nc nd:Nat):([UInt8.ofNat (na*262144+nb*4096+nc*64+nd)].map zat)=[Value.int .u8 (((na:Int)*262144+(nb:Int)*4096+(nc:Int)*64+(nd:Int)) % 256)]:=by
 show [Value.int .u8 ((UInt8.ofNat _).toNat:Int)]=_;rw[zmZ,Int.natCast_add,Int.natCast_add,Int.natCast_add,Int.natCast_mul,Int.natCast_mul,Int.natCast_mul]
 rfl
theorem zmM {c v:Int} (h:ofC c=v) (w:World):
  Calls Tryz.prog 130 #[.int .u8 c] w fun e w'=>e= .returned (.int .i64 v)∧w'=w:=(zcU h w).mono fun _ _ ⟨a,b⟩=>⟨a,b.symm⟩
theorem zqZ {s:ByteArray} {k j:Nat}:zbF (s.extract k (k+j)).data.toList=zbF ((s.data.toList.drop k).take j):=by rw[zle]
set_option maxRecDepth 20000 in
set_option maxHeartbeats 8000000 in
theorem zjl (s:ByteArray) (w:World) (hs:s.size≤1099511627776):
  Calls Tryz.prog 88 #[.string s] w (zp0 w (b64 s.data.toList)):=by
 obtain ⟨i0,hi0,hz0,hz1,hz2⟩:=info_parts zcI;have HR:=hid (zpB s.data.toList);generalize b64 s.data.toList=res at *
 go_enter Tryz.func88,Tryz.ntmps88
 go_wp2
 go_loopw [5,6,7] (fun v e i wr=>∃(k:Nat) (acc:List UInt8) (en:Bool),k≤s.size∧i= .int .i64 k∧e= .bool en∧zZ wr w.heap.size v acc∧Below w.heap.size w wr∧acc.length≤k∧Hid (zhL (s.data.toList.drop k) acc en=res)) (fun _ _ i _=>s.size - (RowKit.intOf i).toNat)
 case atStart=>exact ⟨0,[],false,by omega,rfl,rfl,zhr w,(Below.refl _ w).alloc (Nat.le_refl _) _,by simp,hid HR.out⟩
 case round=>
  obtain ⟨k,acc,en,hk,rfl,rfl,ho,hbw,hacc,HD⟩:=hrel
  by_cases hlt:k<s.size
  ·have hki:(k:Int)<(s.size:Int):=by omega
   have HNE:=hid (zvs hlt);have HLEN:=hid (zkt s k)
   cases en
   ·by_cases h4:s.size - k<4
    ·obtain ⟨m,hm⟩:∃m,m=s.size - k:=⟨_,rfl⟩
     have hmi:(s.size:Int) - (k:Int)=(m:Int):=by omega
     have hm4:(m:Int)<4:=by omega
     have hm1:1≤m:=by omega
     have HM:=hid hm;have HX:=hid (HD.out.symm.trans (zqz HNE.out (by rw[HLEN.out];exact h4) acc));have HB:=hid (fun j (h1:j≤m) (h2:zbF ((s.data.toList.drop k).take j)=false)=>HD.out.symm.trans (zo2 HNE.out (by rw[HLEN.out,←hm];exact h1) (by omega) h2 acc));have hkm:k+m=s.size:=by omega
     clear h4 hm
     go_wp2
     go_loop [9] (fun t=>∃j:Nat,1≤j∧j≤m+1∧t= .int .i64 j) (fun t=>m+1 - (RowKit.intOf t).toNat)
     case atStart=>exact ⟨1,by omega,by omega,rfl⟩
     case round=>
      obtain ⟨j,hj1,hj2,rfl⟩:=hrel
      by_cases hjm:j≤m
      ·have hji:(j:Int)≤(m:Int):=by omega
       have hz:=zk s (a:=k) (b:=k+j) (by omega) (by omega);have HC:=hid (fun w=>zjx (s.extract k (k+j)) w (by omega));rw[zqZ] at HC;have HBJ:=hid (fun h=>HB.out j hjm h);clear hz;generalize zbF ((s.data.toList.drop k).take j)=bb at *
       cases bb
       ·go_wp2_with fail
        refine (HC.out _).mono ?_;rintro e w' ⟨rfl,rfl⟩
        go_wp2
        go_ret3
        exact zik (HBJ.out (by first|rfl|trivial)) (by decide) hbw
       ·go_wp2_with fail
        refine (HC.out _).mono ?_;rintro e w' ⟨rfl,rfl⟩
        go_wp2
        go_round
        case rel=>exact ⟨j+1,by omega,by omega,by go_num⟩
        case measure=>simp[RowKit.intOf];omega
      ·have hji:¬(j:Int)≤(m:Int):=by omega
       go_wp2
       go_ret3
       exact zik HX.out (by decide) hbw
    ·have hk4:k+4≤s.size:=by omega
     have h4i:¬(s.size:Int) - (k:Int)<4:=by omega
     have HB:=hid (fun j (h1:j≤4) (h2:zbF ((s.data.toList.drop k).take j)=false)=>HD.out.symm.trans (zo2 HNE.out (by rw[HLEN.out];omega) h1 h2 acc));clear h4
     go_wp2
     go_loop [9] (fun t=>∃j:Nat,1≤j∧j≤5∧t= .int .i64 j∧Hid (zbF ((s.data.toList.drop k).take (j - 1))=true)) (fun t=>5 - (RowKit.intOf t).toNat)
     case atStart=>exact ⟨1,by omega,by omega,rfl,hid rfl⟩
     case round=>
      obtain ⟨j,hj1,hj2,rfl,HP⟩:=hrel
      by_cases hjm:j≤4
      ·have hji:(j:Int)≤4:=by omega
       have hz:=zk s (a:=k) (b:=k+j) (by omega) (by omega);have HC:=hid (fun w=>zjx (s.extract k (k+j)) w (by omega));rw[zqZ] at HC;have HBJ:=hid (fun h=>HB.out j hjm h);have HNX:=hid (show zbF ((s.data.toList.drop k).take (j+1 - 1))=zbF ((s.data.toList.drop k).take j) by rw[Nat.add_sub_cancel]);clear hz;generalize zbF ((s.data.toList.drop k).take j)=bb at *
       cases bb
       ·go_wp2_with fail
        refine (HC.out _).mono ?_;rintro e w' ⟨rfl,rfl⟩
        go_wp2
        go_ret3
        exact zik (HBJ.out (by first|rfl|trivial)) (by decide) hbw
       ·go_wp2_with fail
        refine (HC.out _).mono ?_;rintro e w' ⟨rfl,rfl⟩
        go_wp2
        go_round
        case rel=>exact ⟨j+1,by omega,by omega,by go_num,hid HNX.out⟩
        case measure=>simp[RowKit.intOf];omega
      ·have hj5:j=5:=by omega
       have hji:¬(j:Int)≤4:=by omega
       have HP4:=hid (show zbF ((s.data.toList.drop k).take 4)=true by have h:=HP.out;rw[hj5] at h;exact h);clear hj5 hj1 hj2 hjm HP HB;obtain ⟨g,hg⟩:∃g,g=s.extract k (k+4):=⟨_,rfl⟩;have hgz:g.size=4:=by rw[hg,ByteArray.size_extract];omega
       have hgs:s.extract k (k+4)=g:=hg.symm;have hbg:zbF [gB g 0,gB g 1,gB g 2,gB g 3]=true:=by
        rw[←zma hgz,hg,zqZ];exact HP4.out
       have HDN:=hid ((by rw[←HD.out,zqU hk4 hg];exact (zss hbg acc).symm):zhL (s.data.toList.drop (k+4)) (acc++zdn (gB g 0) (gB g 1) (gB g 2) (gB g 3)) (decide (gB g 3=61))=res);obtain ⟨qa,qb,hq⟩:=zsG hbg;obtain ⟨va,ha64⟩:=znH qa;obtain ⟨vb,hb64⟩:=znH qb;have b0:=@zE g 0 (by omega);have b1:=@zE g 1 (by omega);have b2:=@zE g 2 (by omega);have b3:=@zE g 3 (by omega);have HA:=hid (show ofC (bt g 0)=(zm (gB g 0):Int) by rw[zfs];exact va);have HBV:=hid (show ofC (bt g 1)=(zm (gB g 1):Int) by rw[zfs];exact vb);have HC2:=hid (fun (h:0≤zaI (gB g 2))=>(show ofC (bt g 2)=(zm (gB g 2):Int)∧zm (gB g 2)<64 by rw[zfs];exact znH h));have HC3:=hid (fun (h:0≤zaI (gB g 3))=>(show ofC (bt g 3)=(zm (gB g 3):Int)∧zm (gB g 3)<64 by rw[zfs];exact znH h));have HGC:=hid (fun c k=>zjX g k c);have HDG:=hid (show zdn (gB g 0) (gB g 1) (gB g 2) (gB g 3)=[UInt8.ofNat ((zm (gB g 0)*262144+zm (gB g 1)*4096) / 65536)]++(if gB g 2=61 then [] else [UInt8.ofNat ((zm (gB g 0)*262144+zm (gB g 1)*4096+zm (gB g 2)*64) / 256)])++(if gB g 3=61 then [] else [UInt8.ofNat (zm (gB g 0)*262144+zm (gB g 1)*4096+zm (gB g 2)*64+zm (gB g 3))]) from rfl);clear hg va vb qa qb hbg HD HNE HLEN HP4;generalize zm (gB g 0)=na at *;generalize zm (gB g 1)=nb at *;generalize zm (gB g 2)=nc at *;generalize zm (gB g 3)=nd at *
       rcases hq with ⟨q1,q2,q3,q4⟩|⟨q1,q2,q3⟩|⟨q1,q2⟩
       ·have c2:(bt g 2!=61)=true:=bne_iff_ne.2 (fun e=>q1 ((HGC.out 61 2).2 e))
        have c3:(bt g 3!=61)=true:=bne_iff_ne.2 (fun e=>q2 ((HGC.out 61 3).2 e));obtain ⟨k2,hk2⟩:=HC2.out q3;obtain ⟨k3,hk3⟩:=HC3.out q4;have HK2:=hid k2;have HK3:=hid k3;have HE:=hid (decide_eq_false q2);have HDG2:=hid (HDG.out.trans (by rw[if_neg q1,if_neg q2]));clear q1 q2 q3 q4 k2 k3
        go_wp2_with fail
        go_quiet (first|(go_at_call 130;with_reducible exact Calls.quiet_of_same (zmM HA.out _))|(go_at_call 130;with_reducible exact Calls.quiet_of_same (zmM HBV.out _)))
        have hbq:=zbb hbw nq;have hoq:zZ (wr.drewN nq) w.heap.size _ acc:=zW ho (zbb (Below.refl _ wr) nq);have hwz:=hbw.size;clear ho hbw;have ho11:=hoq;unfold zZ at ho11;have hws1:=hbq.size
        go_wp2_with (at_builtin;refine wpList_append_own _ rfl _ _ 80 rfl w.heap.size 5 i0 (.int .u8 0) 1 1 Tryz.underlying80 hi0 hz0 hz1 hz2 rfl (by decide) _ _ _ rfl (ho11.alloc _) ⟨(wr.drewN nq).heap.size,0,none⟩ 1 1 [_] rfl rfl (cell_one_new _ _ _) ?c11 ?c12 ?c13 ?c14 ?c15)
        case c11=>exact zcg _
        case c12=>unfold maxLen;omega
        case c13=>omega
        case c14=>simp;omega
        case c15=>
         intro v21 w21 hown2 hg2 _;have HB1:Below w.heap.size w w21:=(hbq.alloc hws1 _).grown hg2 (by simp;omega) (zI ho11);have HO1:zZ w21 w.heap.size v21 (acc++[UInt8.ofNat ((na*262144+nb*4096) / 65536)]):=by
          unfold zZ;rw[List.length_append,List.map_append]
          first|rw[ziL ha64 hb64]|rw[ziS]|rw[zje]
          exact hown2
         clear hown2 hg2 ho11;have hl1:(acc++[UInt8.ofNat ((na*262144+nb*4096) / 65536)]).length≤k+1:=by simp;omega
         generalize hacc1:acc++[UInt8.ofNat ((na*262144+nb*4096) / 65536)]=acc1 at *;have HAC1:=hid hacc1;clear hacc1
         go_wp2_with fail
         refine (zcU HK2.out _).mono ?_;rintro e w' ⟨rfl,rfl⟩;have ho12:=HO1;unfold zZ at ho12;have hws2:=HB1.size
         go_wp2_with (at_builtin;refine wpList_append_own _ rfl _ _ 80 rfl w.heap.size 5 i0 (.int .u8 0) 1 1 Tryz.underlying80 hi0 hz0 hz1 hz2 rfl (by decide) _ _ _ rfl (ho12.alloc _) ⟨w21.heap.size,0,none⟩ 1 1 [_] rfl rfl (cell_one_new _ _ _) ?c21 ?c22 ?c23 ?c24 ?c25)
         case c21=>exact zcg _
         case c22=>unfold maxLen;omega
         case c23=>omega
         case c24=>simp;omega
         case c25=>
          intro v22 w22 hown2 hg2 _;have HB2:Below w.heap.size w w22:=(HB1.alloc hws2 _).grown hg2 (by simp;omega) (zI ho12);have HO2:zZ w22 w.heap.size v22 (acc1++[UInt8.ofNat ((na*262144+nb*4096+nc*64) / 256)]):=by
           unfold zZ;rw[List.length_append,List.map_append]
           first|rw[ziL ha64 hb64]|rw[ziS]|rw[zje]
           exact hown2
          clear hown2 hg2 ho12;have hl2:(acc1++[UInt8.ofNat ((na*262144+nb*4096+nc*64) / 256)]).length≤k+2:=by simp;omega
          generalize hacc2:acc1++[UInt8.ofNat ((na*262144+nb*4096+nc*64) / 256)]=acc2 at *;have HAC2:=hid hacc2;clear hacc2
          go_wp2_with fail
          refine (zcU HK3.out _).mono ?_;rintro e w' ⟨rfl,rfl⟩;have ho13:=HO2;unfold zZ at ho13;have hws3:=HB2.size
          go_wp2_with (at_builtin;refine wpList_append_own _ rfl _ _ 80 rfl w.heap.size 5 i0 (.int .u8 0) 1 1 Tryz.underlying80 hi0 hz0 hz1 hz2 rfl (by decide) _ _ _ rfl (ho13.alloc _) ⟨w22.heap.size,0,none⟩ 1 1 [_] rfl rfl (cell_one_new _ _ _) ?c31 ?c32 ?c33 ?c34 ?c35)
          case c31=>exact zcg _
          case c32=>unfold maxLen;omega
          case c33=>omega
          case c34=>simp;omega
          case c35=>
           intro v23 w23 hown2 hg2 _;have HB3:Below w.heap.size w w23:=(HB2.alloc hws3 _).grown hg2 (by simp;omega) (zI ho13);have HO3:zZ w23 w.heap.size v23 (acc2++[UInt8.ofNat (na*262144+nb*4096+nc*64+nd)]):=by
            unfold zZ;rw[List.length_append,List.map_append]
            first|rw[ziL ha64 hb64]|rw[ziS]|rw[zje]
            exact hown2
           clear hown2 hg2 ho13
           go_wp2
           go_roundw
           case rel=>exact ⟨k+4,_,false,by omega,by go_num,rfl,HO3,HB3,by simp;omega,hid (by rw[←HDN.out,HDG2.out];rw[HE.out];simp[←HAC1.out,←HAC2.out])⟩
           case measure=>simp[RowKit.intOf];omega
       ·have c2:(bt g 2!=61)=true:=bne_iff_ne.2 (fun e=>q1 ((HGC.out 61 2).2 e))
        have c3:(bt g 3!=61)=false:=by rw[(HGC.out 61 3).1 q2];rfl
        obtain ⟨k2,hk2⟩:=HC2.out q3;have HK2:=hid k2;have HE:=hid (decide_eq_true q2);have HDG2:=hid (HDG.out.trans (by rw[if_neg q1,if_pos q2]));clear q1 q2 q3 k2
        go_wp2_with fail
        go_quiet (first|(go_at_call 130;with_reducible exact Calls.quiet_of_same (zmM HA.out _))|(go_at_call 130;with_reducible exact Calls.quiet_of_same (zmM HBV.out _)))
        have hbq:=zbb hbw nq;have hoq:zZ (wr.drewN nq) w.heap.size _ acc:=zW ho (zbb (Below.refl _ wr) nq);have hwz:=hbw.size;clear ho hbw;have ho11:=hoq;unfold zZ at ho11;have hws1:=hbq.size
        go_wp2_with (at_builtin;refine wpList_append_own _ rfl _ _ 80 rfl w.heap.size 5 i0 (.int .u8 0) 1 1 Tryz.underlying80 hi0 hz0 hz1 hz2 rfl (by decide) _ _ _ rfl (ho11.alloc _) ⟨(wr.drewN nq).heap.size,0,none⟩ 1 1 [_] rfl rfl (cell_one_new _ _ _) ?c11 ?c12 ?c13 ?c14 ?c15)
        case c11=>exact zcg _
        case c12=>unfold maxLen;omega
        case c13=>omega
        case c14=>simp;omega
        case c15=>
         intro v21 w21 hown2 hg2 _;have HB1:Below w.heap.size w w21:=(hbq.alloc hws1 _).grown hg2 (by simp;omega) (zI ho11);have HO1:zZ w21 w.heap.size v21 (acc++[UInt8.ofNat ((na*262144+nb*4096) / 65536)]):=by
          unfold zZ;rw[List.length_append,List.map_append]
          first|rw[ziL ha64 hb64]|rw[ziS]|rw[zje]
          exact hown2
         clear hown2 hg2 ho11;have hl1:(acc++[UInt8.ofNat ((na*262144+nb*4096) / 65536)]).length≤k+1:=by simp;omega
         generalize hacc1:acc++[UInt8.ofNat ((na*262144+nb*4096) / 65536)]=acc1 at *;have HAC1:=hid hacc1;clear hacc1
         go_wp2_with fail
         refine (zcU HK2.out _).mono ?_;rintro e w' ⟨rfl,rfl⟩;have ho12:=HO1;unfold zZ at ho12;have hws2:=HB1.size
         go_wp2_with (at_builtin;refine wpList_append_own _ rfl _ _ 80 rfl w.heap.size 5 i0 (.int .u8 0) 1 1 Tryz.underlying80 hi0 hz0 hz1 hz2 rfl (by decide) _ _ _ rfl (ho12.alloc _) ⟨w21.heap.size,0,none⟩ 1 1 [_] rfl rfl (cell_one_new _ _ _) ?c21 ?c22 ?c23 ?c24 ?c25)
         case c21=>exact zcg _
         case c22=>unfold maxLen;omega
         case c23=>omega
         case c24=>simp;omega
         case c25=>
          intro v22 w22 hown2 hg2 _;have HB2:Below w.heap.size w w22:=(HB1.alloc hws2 _).grown hg2 (by simp;omega) (zI ho12);have HO2:zZ w22 w.heap.size v22 (acc1++[UInt8.ofNat ((na*262144+nb*4096+nc*64) / 256)]):=by
           unfold zZ;rw[List.length_append,List.map_append]
           first|rw[ziL ha64 hb64]|rw[ziS]|rw[zje]
           exact hown2
          clear hown2 hg2 ho12
          go_wp2
          go_roundw
          case rel=>exact ⟨k+4,_,true,by omega,by go_num,rfl,HO2,HB2,by simp;omega,hid (by rw[←HDN.out,HDG2.out];rw[HE.out];simp[←HAC1.out])⟩
          case measure=>simp[RowKit.intOf];omega
       ·have c2:(bt g 2!=61)=false:=by rw[(HGC.out 61 2).1 q1];rfl
        have c3:(bt g 3!=61)=false:=by rw[(HGC.out 61 3).1 q2];rfl
        have HE:=hid (decide_eq_true q2);have HDG2:=hid (HDG.out.trans (by rw[if_pos q1,if_pos q2]));clear q1 q2
        go_wp2_with fail
        go_quiet (first|(go_at_call 130;with_reducible exact Calls.quiet_of_same (zmM HA.out _))|(go_at_call 130;with_reducible exact Calls.quiet_of_same (zmM HBV.out _)))
        have hbq:=zbb hbw nq;have hoq:zZ (wr.drewN nq) w.heap.size _ acc:=zW ho (zbb (Below.refl _ wr) nq);have hwz:=hbw.size;clear ho hbw;have ho11:=hoq;unfold zZ at ho11;have hws1:=hbq.size
        go_wp2_with (at_builtin;refine wpList_append_own _ rfl _ _ 80 rfl w.heap.size 5 i0 (.int .u8 0) 1 1 Tryz.underlying80 hi0 hz0 hz1 hz2 rfl (by decide) _ _ _ rfl (ho11.alloc _) ⟨(wr.drewN nq).heap.size,0,none⟩ 1 1 [_] rfl rfl (cell_one_new _ _ _) ?c11 ?c12 ?c13 ?c14 ?c15)
        case c11=>exact zcg _
        case c12=>unfold maxLen;omega
        case c13=>omega
        case c14=>simp;omega
        case c15=>
         intro v21 w21 hown2 hg2 _;have HB1:Below w.heap.size w w21:=(hbq.alloc hws1 _).grown hg2 (by simp;omega) (zI ho11);have HO1:zZ w21 w.heap.size v21 (acc++[UInt8.ofNat ((na*262144+nb*4096) / 65536)]):=by
          unfold zZ;rw[List.length_append,List.map_append]
          first|rw[ziL ha64 hb64]|rw[ziS]|rw[zje]
          exact hown2
         clear hown2 hg2 ho11
         go_wp2
         go_roundw
         case rel=>exact ⟨k+4,_,true,by omega,by go_num,rfl,HO1,HB1,by simp;omega,hid (by rw[←HDN.out,HDG2.out];rw[HE.out];simp)⟩
         case measure=>simp[RowKit.intOf];omega
   ·have HX:=hid (show res=none by rw[←HD.out,zrU HNE.out])
    go_wp2
    go_ret3
    exact zik HX.out (by decide) hbw
  ·obtain rfl:k=s.size:=by omega
   have HX:=hid (show res=some acc by rw[←HD.out,zl8 (Nat.le_refl _),zuk]);have hcv:=ho.conv
   go_wp2
   go_ret3
   exact zuD HX.out hbw
end Go.Proofs.YtbnafbdhomdcoaaGreatDoor
namespace Go.Proofs.YtbnafbdhomdcoaaGreatDoor.T5
open Go.RowKit Go.Shelf Go.Lib
def zwh (v u:Value):Prop:=∀k,v.ownBlock=some k→u.ownBlock≠some k
section
variable {w w':World} {base:Nat} {e:TypeId} {size n:Nat} {v u:Value} {xs:List Value}
theorem zhb (h:w.ownsRow base e size v n xs) (hg:w.grownBy w' u.ownBlock) (ha:zwh u v):w'.ownsRow base e size v n xs:=h.kept hg (by
 cases hv:v.ownBlock with
 |none=>exact .inl rfl
 |some k=>exact .inr (fun e=>ha k e.symm hv))
theorem zdE {b1 b2:Nat} {e1 e2:TypeId} {s1 s2 n1 n2:Nat} {xs1 xs2:List Value} (h1:w.ownsRow b1 e1 s1 v n1 xs1) (h2:w.ownsRow b2 e2 s2 u n2 xs2) (he:e1≠e2):zwh v u:=fun k hk hu=>by
 rcases h1.2 with ⟨rfl,_⟩|⟨g,cap,cur,rfl,_,hg,_⟩
 ·simp[Value.ownBlock] at hk
 ·rcases h2.2 with ⟨rfl,_⟩|⟨g',cap',cur',rfl,_,hg',_⟩
  ·simp[Value.ownBlock] at hu
  ·simp only[Value.ownBlock,Option.some.injEq] at hk hu
   subst hk;subst hu;rw[hg] at hg';injection hg' with hg';injection hg' with _ hg';exact he hg'
theorem zjZ (h:w.ownsRow base e size v n xs):∀k,v.ownBlock=some k→k<w.heap.size:=fun k hk=>(h.lt k hk).2
end
end Go.Proofs.YtbnafbdhomdcoaaGreatDoor.T5
namespace Go.Proofs.YtbnafbdhomdcoaaGreatDoor
open Go.RowKit Go.Shelf Go.Lib
set_option maxRecDepth 20000 in
set_option maxHeartbeats 2000000 in
theorem zny (s:ByteArray) (w:World) (hs:s.size≤1099511627776) (h0:0<s.size) (hq0:bt s 0=34):
  Calls Tryz.prog 179 #[.string s] w (zh9 w (zde s)):=by
 obtain ⟨i0,hi0,hz0,hz1,hz2⟩:=info_parts zcI;have he:s.toList.isEmpty=false:=by rw[zo];exact decide_eq_false (by omega)
 have hb0:=@zE s 0 h0;have hc0:(bt s 0!=34)=false:=by rw[hq0];rfl
 clear hq0
 go_enter Tryz.func179,Tryz.ntmps179
 go_wp2
 go_loopw [5,6] (fun v i wr=>∃(k:Nat) (acc:List UInt8),1≤k∧k≤s.size+1∧i= .int .i64 k∧zeU s k∧zZ wr w.heap.size v acc∧Below w.heap.size w wr∧acc.length≤k) (fun _ i _=>s.size - (RowKit.intOf i).toNat)
 case atStart=>exact ⟨1,[],by omega,by omega,rfl,zeU.start s,zhr w,(Below.refl _ w).alloc (Nat.le_refl _) _,by simp⟩
 case round=>
  obtain ⟨k,acc,hk1,hk,rfl,hq,ho,hbw,hacc⟩:=hrel
  by_cases hlt:k<s.size
  ·have hb:=@zE s k hlt
   by_cases h34:bt s k=34
   ·have hc:=beq_iff_eq.2 h34
    have HE:=hid (hq.quote hlt h34);have hcv:=ho.conv;clear h34 hq
    go_wp2
    go_ret3
    exact ziV (by rw[HE.out];omega) (by rw[HE.out,if_neg (by omega)]) hbw
   ·have hc:(bt s k==34)=false:=beq_eq_false_iff_ne.2 h34
    by_cases h92:bt s k=92
    ·have hc2:=beq_iff_eq.2 h92
     by_cases hend:k+1=s.size
     ·have HE:=hid (hq.esc_end hend h92)
      have hc3:¬((k:Int)+1<(s.size:Int)):=by omega
      clear h34 h92 hq hend
      go_wp2
      go_ret3
      exact zcZ HE.out hbw
     ·have hlt2:k+1<s.size:=by omega
      have hb2:=@zE s (k+1) hlt2;have hi:((k:Int)+1).toNat=k+1:=by omega
      have hlt3:(k:Int)+1<(s.size:Int):=by omega
      have hbb:=zrw s (k+1) hlt2
      cases hin:za4 (bt s (k+1))
      ·have HE:=hid (hq.esc_bad hlt2 h92 hin)
       clear h34 h92 hq hend
       go_wp2_with fail
       refine (zfI _ _).mono ?_;rw[hin];rintro e w' ⟨rfl,rfl⟩
       go_wp2
       go_ret3
       exact zcZ HE.out hbw
      ·have HE:=hid (hq.esc_on hlt2 h92 hin)
       clear h34 h92 hq hend
       go_wp2_with fail
       refine (zfI _ _).mono ?_;rw[hin];rintro e w' ⟨rfl,rfl⟩;have ho1:=ho;unfold zZ at ho1
       go_wp2_with (at_builtin;refine wpList_append_own _ rfl _ _ 80 rfl w.heap.size 5 i0 (.int .u8 0) 1 1 Tryz.underlying80 hi0 hz0 hz1 hz2 rfl (by decide) _ _ _ rfl (ho1.alloc _) ⟨wr.heap.size,0,none⟩ 1 1 [.int .u8 (bt s (k+1))] rfl rfl (cell_one_new _ _ _) ?a1 ?a2 ?a3 ?a4 ?a5)
       case a1=>exact zcg _
       case a2=>unfold maxLen;omega
       case a3=>omega
       case a4=>simp;have:=hbw.size;omega
       case a5=>
        intro v2 w2 hown2 hg2 _;have hb2:Below w.heap.size w w2:=(hbw.alloc hbw.size _).grown hg2 (by simp;have:=hbw.size;omega) (zI ho1);have ho2:zZ w2 w.heap.size v2 (acc++[zpS s (k+1)]):=by
         unfold zZ;rw[List.length_append,List.map_append];rw[show ([zpS s (k+1)].map zat)=[.int .u8 (bt s (k+1))] by simp[zat,hbb]];exact hown2
        clear hown2 hg2 ho1
        go_wp2
        go_roundw
        case rel=>exact ⟨k+2,_,by omega,by omega,by go_num,HE.out,ho2,hb2,by simp;omega⟩
        case measure=>simp[RowKit.intOf];omega
    ·have hc2:(bt s k==92)=false:=beq_eq_false_iff_ne.2 h92
     have hbb:=zrw s k hlt
     cases hin:za4 (bt s k)
     ·have HE:=hid (hq.bad hlt h34 h92 hin)
      clear h34 h92 hq
      go_wp2_with fail
      refine (zfI _ _).mono ?_;rw[hin];rintro e w' ⟨rfl,rfl⟩
      go_wp2
      go_ret3
      exact zcZ HE.out hbw
     ·have HE:=hid (hq.on hlt h34 h92 hin)
      clear h34 h92 hq
      go_wp2_with fail
      refine (zfI _ _).mono ?_;rw[hin];rintro e w' ⟨rfl,rfl⟩;have ho1:=ho;unfold zZ at ho1
      go_wp2_with (at_builtin;refine wpList_append_own _ rfl _ _ 80 rfl w.heap.size 5 i0 (.int .u8 0) 1 1 Tryz.underlying80 hi0 hz0 hz1 hz2 rfl (by decide) _ _ _ rfl (ho1.alloc _) ⟨wr.heap.size,0,none⟩ 1 1 [.int .u8 (bt s k)] rfl rfl (cell_one_new _ _ _) ?d1 ?d2 ?d3 ?d4 ?d5)
      case d1=>exact zcg _
      case d2=>unfold maxLen;omega
      case d3=>omega
      case d4=>simp;have:=hbw.size;omega
      case d5=>
       intro v2 w2 hown2 hg2 _;have hb2:Below w.heap.size w w2:=(hbw.alloc hbw.size _).grown hg2 (by simp;have:=hbw.size;omega) (zI ho1);have ho2:zZ w2 w.heap.size v2 (acc++[zpS s k]):=by
        unfold zZ;rw[List.length_append,List.map_append];rw[show ([zpS s k].map zat)=[.int .u8 (bt s k)] by simp[zat,hbb]];exact hown2
       clear hown2 hg2 ho1
       go_wp2
       go_roundw
       case rel=>exact ⟨k+1,_,by omega,by omega,by go_num,HE.out,ho2,hb2,by simp;omega⟩
       case measure=>simp[RowKit.intOf];omega
  ·have HE:=hid (hq.end_ (by omega))
   clear hq
   go_wp2
   go_ret3
   exact zcZ HE.out hbw
def zmY (w:World) (o:Option (List ByteArray)) (e:Ending) (w':World):Prop:=
 ∃A c L n,e= .returned (.tuple #[.slice A L.length c,.int .i64 n])∧w'.ownsRow w.heap.size 9 1 (.slice A L.length c) L.length (L.map .string)∧Below w.heap.size w w'∧(match o with|none=>n≠0∧L=[]|some l=>n=0∧L=l)
theorem zly {w w':World} {A:Option Addr} {c:Nat} {n:Int} {o:Option (List ByteArray)} (h:o=none) (hn:n≠0) (ho:w'.ownsRow w.heap.size 9 1 (.slice A 0 c) 0 []) (hb:Below w.heap.size w w'):
  zmY w o (.returned (.tuple #[.slice A 0 c,.int .i64 n])) w':=by
 subst h;exact ⟨A,c,[],n,rfl,ho,hb,hn,rfl⟩
theorem zps {w w':World} {A:Option Addr} {c:Nat} {o:Option (List ByteArray)} {L:List ByteArray} (h:o=some L) (ho:w'.ownsRow w.heap.size 9 1 (.slice A L.length c) L.length (L.map .string)) (hb:Below w.heap.size w w'):
  zmY w o (.returned (.tuple #[.slice A L.length c,.int .i64 0])) w':=by
 subst h;exact ⟨A,c,L,0,rfl,ho,hb,rfl,rfl⟩
set_option maxRecDepth 20000 in
set_option maxHeartbeats 2000000 in
theorem zsN (s:ByteArray) (w:World) (hs:s.size≤1099511627776):
  Calls Tryz.prog 126 #[.string s] w (zmY w (zek s)):=by
 obtain ⟨i0,hi0,hz0,hz1,hz2⟩:=info_parts zcx
 go_enter Tryz.func126,Tryz.ntmps126
 go_wp2
 go_loopw [4,5,6] (fun v f t wr=>∃(a i:Nat) (acc:List ByteArray),a≤i+1∧i≤s.size+1∧f= .int .i64 a∧t= .int .i64 i∧wr.ownsRow w.heap.size 9 1 v (zbP acc).length ((zbP acc).map .string)∧Below w.heap.size w wr∧((i≤s.size→a≤i∧zfj s a i acc)∧(i=s.size+1→zek s=some (zbP acc)))∧acc.length≤i) (fun _ _ t _=>s.size+1 - (RowKit.intOf t).toNat)
 case atStart=>exact ⟨0,0,[],by omega,by omega,rfl,rfl,zhs w,(Below.refl _ _).alloc (Nat.le_refl _) _,⟨fun _=>⟨by omega,zfj.start s⟩,fun h=>by omega⟩,by simp⟩
 case round=>
  obtain ⟨a,i,acc,_,hi,rfl,rfl,hown,hbw,⟨hE,hF⟩,hal⟩:=hrel;have hcl:=zkE acc
  by_cases hle:i≤s.size
  ·obtain ⟨ha,hE⟩:=hE hle
   clear hF;have hpz:=zk s (a:=a) (b:=i) ha hle;have HT:=hid (fun w=>zr0 (s.extract a i) w (by unfold maxLen;omega));have HC:=hid (zoc acc (s.extract a i));clear hpz;generalize zes (s.extract a i)=y at HT HC
   by_cases hlt:i<s.size
   ·have hb:=@zE s i hlt
    have hne:((i:Int)==(s.size:Int))=false:=beq_eq_false_iff_ne.2 (by omega)
    by_cases h34:bt s i=34
    ·have hc:=beq_iff_eq.2 h34
     have hc44:(bt s i==44)=false:=beq_eq_false_iff_ne.2 (by omega);have hz:=zk s (a:=i) (b:=s.size) (by omega) (Nat.le_refl _);have hb0:bt (s.extract i s.size) 0=bt s i:=zbe s (j:=0) (by omega);have HU:=hid (fun w=>zny (s.extract i s.size) w (by omega) (by omega) (by rw[hb0];exact h34));have hql:=(zoo (s.extract i s.size)).1;have HN:=hid (hE.quo_none ha hlt h34);have HO:=hid (hE.quo_on ha hlt h34);rw[hz] at hql;generalize zde (s.extract i s.size)=n at HU hql HN HO;clear h34 hE hz HT HC hb0
     rcases Nat.eq_zero_or_pos n with hn|hn
     ·have HX:=hid (HN.out hn)
      clear HN HO
      go_wp2_with fail
      refine (HU.out _).mono ?_;rw[hn];rintro e w1 ⟨v,rfl,hb1⟩;have hbw1:=hbw.trans (hb1.mono hbw.size);clear hn
      go_wp2
      go_ret2
      exact zly HX.out (by decide) ((zhs w1).mono hbw1.size) (hbw1.alloc hbw1.size _)
     ·have HX:=hid (HO.out hn)
      clear HN HO
      go_wp2_with fail
      refine (HU.out _).mono ?_;rintro e w1 ⟨v,rfl,hb1⟩;rw[if_neg (by omega)]
      go_wp2
      go_roundw
      case rel=>exact ⟨a,i+n,acc,by omega,by omega,rfl,by go_num,zW hown hb1,hbw.trans (hb1.mono hbw.size),⟨fun _=>⟨by omega,HX.out⟩,fun h=>by omega⟩,by omega⟩
      case measure=>simp[RowKit.intOf];omega
    ·have hc:(bt s i==34)=false:=beq_eq_false_iff_ne.2 h34
     by_cases h44:bt s i=44
     ·have hc2:=beq_iff_eq.2 h44
      have HX:=hid (hE.comma ha hlt h44);clear h34 h44 hE
      go_wp2_with fail
      refine (HT.out _).mono ?_;rintro e w3 ⟨rfl,rfl⟩
      by_cases hy:y.size=0
      ·have he:=zaR hy
       have HC2:=hid (HC.out.trans (if_pos hy));clear hy HC
       go_wp2
       go_roundw
       case rel=>exact ⟨i+1,i+1,acc++[s.extract a i],by omega,by omega,by go_num,by go_num,by rw[HC2.out];exact hown,hbw,⟨fun _=>⟨by omega,HX.out⟩,fun h=>by omega⟩,by simp;omega⟩
       case measure=>simp[RowKit.intOf];omega
      ·have he:=zaa hy
       have HC2:=hid (HC.out.trans (if_neg hy));clear hy HC
       go_wp2_with (at_builtin;refine wpList_append_own _ rfl _ _ 22 rfl w.heap.size 9 i0 (.string ⟨#[]⟩) 1 16 Tryz.underlying22 hi0 hz0 hz1 hz2 rfl (by decide) _ _ _ rfl (hown.alloc _) ⟨wr.heap.size,0,none⟩ 1 1 [.string y] rfl rfl (cell_one_new _ _ _) ?f1 ?f2 ?f3 ?f4 ?f5)
       case f1=>exact za5 [y]
       case f2=>unfold maxLen;omega
       case f3=>omega
       case f4=>simp;have:=hbw.size;omega
       case f5=>
        intro v' w4 hown4 hg4 _
        go_wp2
        go_roundw
        case rel=>exact ⟨i+1,i+1,acc++[s.extract a i],by omega,by omega,by go_num,by go_num,by rw[HC2.out,List.map_append,List.length_append];exact hown4,(hbw.alloc hbw.size _).grown hg4 (by simp;have:=hbw.size;omega) (zI hown),⟨fun _=>⟨by omega,HX.out⟩,fun h=>by omega⟩,by simp;omega⟩
        case measure=>simp[RowKit.intOf];omega
     ·have hc2:(bt s i==44)=false:=beq_eq_false_iff_ne.2 h44
      have HX:=hid (hE.on ha hlt h34 h44);clear h34 h44 hE HT HC
      go_wp2
      go_roundw
      case rel=>exact ⟨a,i+1,acc,by omega,by omega,rfl,by go_num,hown,hbw,⟨fun _=>⟨by omega,HX.out⟩,fun h=>by omega⟩,by omega⟩
      case measure=>simp[RowKit.intOf];omega
   ·obtain rfl:i=s.size:=by omega
    have HX:=hid (hE.end_ rfl);clear hE
    go_wp2_with fail
    refine (HT.out _).mono ?_;rintro e w3 ⟨rfl,rfl⟩
    by_cases hy:y.size=0
    ·have he:=zaR hy
     have HC2:=hid (HC.out.trans (if_pos hy));clear hy HC
     go_wp2
     go_roundw
     case rel=>exact ⟨s.size+1,s.size+1,acc++[s.extract a s.size],by omega,by omega,by go_num,by go_num,by rw[HC2.out];exact hown,hbw,⟨fun h=>by omega,fun _=>HX.out⟩,by simp;omega⟩
     case measure=>simp[RowKit.intOf]
    ·have he:=zaa hy
     have HC2:=hid (HC.out.trans (if_neg hy));clear hy HC
     go_wp2_with (at_builtin;refine wpList_append_own _ rfl _ _ 22 rfl w.heap.size 9 i0 (.string ⟨#[]⟩) 1 16 Tryz.underlying22 hi0 hz0 hz1 hz2 rfl (by decide) _ _ _ rfl (hown.alloc _) ⟨wr.heap.size,0,none⟩ 1 1 [.string y] rfl rfl (cell_one_new _ _ _) ?g1 ?g2 ?g3 ?g4 ?g5)
     case g1=>exact za5 [y]
     case g2=>unfold maxLen;omega
     case g3=>omega
     case g4=>simp;have:=hbw.size;omega
     case g5=>
      intro v' w4 hown4 hg4 _
      go_wp2
      go_roundw
      case rel=>exact ⟨s.size+1,s.size+1,acc++[s.extract a s.size],by omega,by omega,by go_num,by go_num,by rw[HC2.out,List.map_append,List.length_append];exact hown4,(hbw.alloc hbw.size _).grown hg4 (by simp;have:=hbw.size;omega) (zI hown),⟨fun h=>by omega,fun _=>HX.out⟩,by simp;omega⟩
      case measure=>simp[RowKit.intOf]
  ·have HX:=hid (hF (by omega))
   clear hE hF;obtain ⟨A',c',rfl⟩:=zC hown
   go_wp2
   go_ret2
   exact zps HX.out hown hbw
theorem ztj {l:List ByteArray} {k:Nat} {s:ByteArray} {P:ByteArray→Bool} (h:l[k]?=some s) (hp:P s=false):¬l.all P=true:=fun g=>by
 have:=List.all_eq_true.1 g s (List.mem_of_getElem? h);rw[hp] at this
 cases this
theorem zpH {s:ByteArray} (h:zek s=none):zdf s=none:=by unfold zdf;rw[h]
theorem zrT {s:ByteArray} {l:List ByteArray} (h:zek s=some l) (hn:¬l.all zbn=true):zdf s=none:=by unfold zdf;rw[h];exact if_neg hn
theorem zpA {s:ByteArray} {l:List ByteArray} (h:zek s=some l) (hn:l.all zbn=true):zdf s=some l:=by unfold zdf;rw[h];exact if_pos hn
set_option maxRecDepth 20000 in
set_option maxHeartbeats 2000000 in
theorem znZ (s:ByteArray) (w:World) (hs:s.size≤1048576):
  Calls Tryz.prog 85 #[.string s] w (zmY w (zdf s)):=by
 have HL:=hid (zsN s w (by omega))
 cases he:zek s with
 |none=>
  rw[he] at HL;have HN:=hid (zpH he);clear he
  go_enter Tryz.func85,Tryz.ntmps85
  go_wp2_with fail
  refine HL.out.mono ?_;rintro e w1 ⟨A,c,L,n,rfl,hown,hb,hn,rfl⟩;have hnn:(n !=0)=true:=bne_iff_ne.2 hn;clear hn
  go_wp2
  go_ret2
  exact zly HN.out (bne_iff_ne.1 hnn) hown hb
 |some l=>
  rw[he] at HL;obtain ⟨hw1,hw2,hw3⟩:=zet he;have hsum:∀x∈l,x.size≤1048576:=fun x hx=>by have h:=ze9 hx;omega
  have HG:=hid (fun h=>zpA he h);have HB:=hid (fun h=>zrT he h);have HZ:=hid hsum;clear he hw1 hw2 hsum
  go_enter Tryz.func85,Tryz.ntmps85
  go_wp2_with fail
  refine HL.out.mono ?_;rintro e w1 ⟨A,c,L,n,rfl,hown,hb,rfl,hLl⟩;subst hLl;have hrow:=zak hown
  go_wp2
  go_loop [6] (fun i=>∃k:Nat,k≤L.length∧i= .int .i64 k∧(L.take k).all zbn=true) (fun i=>L.length - (RowKit.intOf i).toNat)
  case atStart=>exact ⟨0,Nat.zero_le _,rfl,rfl⟩
  case round=>
   obtain ⟨k,hk,rfl,hall⟩:=hrel;have HA:=hid hall;clear hall
   by_cases hlt:k<L.length
   ·obtain ⟨x,hx⟩:=zD hlt
    obtain ⟨b,off,rfl,hbl,hcell⟩:=hrow.str hx;have hxz:=HZ.out x (List.mem_of_getElem? hx);have HT:=hid (fun w=>zeV x w (by unfold maxLen;omega));have HX:=hid hx;clear hx hxz
    cases ht:zbn x
    ·rw[ht] at HT
     have HBD:=hid (HB.out (ztj HX.out ht));clear ht
     go_wp2_with fail
     refine (HT.out _).mono ?_;rintro e w2 ⟨rfl,rfl⟩
     go_wp2
     go_ret2
     exact zly HBD.out (by decide) ((zhs w1).mono hb.size) (hb.alloc hb.size _)
    ·rw[ht] at HT
     have HT2:=hid ht;clear ht
     go_wp2_with fail
     refine (HT.out _).mono ?_;rintro e w2 ⟨rfl,rfl⟩
     go_wp2
     go_round
     case rel=>exact ⟨k+1,by omega,by go_num,by rw[zb6 HX.out,List.all_append,HA.out,List.all_cons,HT2.out];rfl⟩
     case measure=>simp[RowKit.intOf];omega
   ·obtain rfl:k=L.length:=by omega
    have HG2:=hid (HG.out (by have:=HA.out;rw[List.take_length] at this;exact this))
    go_wp2
    go_ret2
    exact zps HG2.out hown hb
theorem zl4 (a b:ByteArray):(a++b).data.toList=a.data.toList++b.data.toList:=by simp
theorem zt8 {vs:List ByteArray} {k:Nat} {v:ByteArray} (h:vs[k]?=some v):(zaw (vs.take (k+1))).data.toList=if k=0 then v.data.toList else (zaw (vs.take k)).data.toList++[44,32]++v.data.toList:=by
 by_cases h0:k=0
 ·subst h0
  rw[if_pos rfl,zjt h]
 ·rw[if_neg h0,zkk (by omega) h,zl4,zl4]
theorem znC (l:List UInt8) (x:ByteArray) {w:World} {base:Nat} {v:Value} (h:w.ownsRow base 5 1 v (l.length+x.size) (l.map zat++Lib.strCells x)):zZ w base v (l++x.data.toList):=by
 have e:Lib.strCells x=x.data.toList.map zat:=by simp[Lib.strCells,zat]
 unfold zZ;rw[List.length_append,List.map_append,size_eq,←e];exact h
set_option maxRecDepth 20000 in
set_option maxHeartbeats 2000000 in
theorem zmO (A:Option Addr) (c:Nat) (zs:List ByteArray) (w:World) (hr:Row w A (zs.map .string)) (hl:(zs.map (·.size)).sum+zs.length*3≤1099511627776):
  Calls Tryz.prog 42 #[.slice A zs.length c] w fun e w'=>e= .returned (.string (zaw zs))∧Below w.heap.size w w':=by
 obtain ⟨i0,hi0,hz0,hz1,hz2⟩:=info_parts zcI;have HS:=hid (fun x (hx:x∈zs)=>ze9 hx);have HJ:=hid (fun k=>zjm zs k)
 go_enter Tryz.func42,Tryz.ntmps42
 go_wp2
 go_loopw [3,4] (fun v i wr=>∃k:Nat,k≤zs.length∧i= .int .i64 k∧zZ wr w.heap.size v (zaw (zs.take k)).data.toList∧Below w.heap.size w wr) (fun _ i _=>zs.length - (RowKit.intOf i).toNat)
 case atStart=>exact ⟨0,by omega,rfl,zhr w,(Below.refl _ w).alloc (Nat.le_refl _) _⟩
 case round=>
  obtain ⟨k,hk,rfl,ho,hbw⟩:=hrel;have hjl:(zaw (zs.take k)).data.toList.length≤(zs.map (·.size)).sum+zs.length*2:=by have:=HJ.out k;rw[size_eq];exact this
  by_cases hlt:k<zs.length
  ·obtain ⟨x,hx⟩:=zD hlt
   obtain ⟨b,off,rfl,hb,h0⟩:=(hr.below hbw).str hx;have hxz:=HS.out x (List.mem_of_getElem? hx);have HX:=hid (zt8 hx);have hbl:b<w.heap.size:=by
    obtain ⟨b2,o2,e,h,_⟩:=hr.str hx
    cases e
    exact h
   clear hx;have HA0:=hid (show k=0→(zaw (zs.take k)).data.toList=[] from fun e=>by rw[e];rfl);generalize (zaw (zs.take k)).data.toList=acc at *
   by_cases hk0:k=0
   ·have HX2:=hid (HX.out.trans (if_pos hk0))
    have HN:=hid (HA0.out hk0);have hk1:¬0<k:=by omega
    have ho1:=ho;unfold zZ at ho1;clear hk0 HX HA0
    go_wp2_with (at_builtin;(refine Lib.wpList_append_own_string _ rfl _ _ 80 9 rfl w.heap.size 5 i0 Tryz.underlying80 Tryz.underlying9 hi0 hz0 hz1 hz2 _ _ _ rfl ho1 x rfl (by unfold maxLen;omega) (by omega) hbw.size ?_))
    intro v3 w3 hown3 hg3 _;have hb3:Below w.heap.size w w3:=hbw.grown hg3 hbw.size (zI ho1);have ho3:zZ w3 w.heap.size v3 (zaw (zs.take (k+1))).data.toList:=by
     rw[HX2.out];have h:=znC acc x hown3;rw[HN.out] at h;exact h
    clear hown3 hg3 ho1
    go_wp2
    go_roundw
    case rel=>exact ⟨k+1,by omega,by go_num,ho3,hb3⟩
    case measure=>simp[RowKit.intOf];omega
   ·have hk1:0<k:=by omega
    have HX2:=hid (HX.out.trans (if_neg hk0));clear hk0 HX HA0;have ho1:=ho;unfold zZ at ho1;have hcz:(⟨#[44,32]⟩:ByteArray).size=2:=rfl;have HC:=hid (fun (w':World) (h:Below w.heap.size wr w')=>(h.cell (p:=⟨b,off+k,none⟩) hbl).trans h0)
    go_wp2_with (at_builtin;(refine Lib.wpList_append_own_string _ rfl _ _ 80 9 rfl w.heap.size 5 i0 Tryz.underlying80 Tryz.underlying9 hi0 hz0 hz1 hz2 _ _ _ rfl ho1 ⟨#[44,32]⟩ rfl (by unfold maxLen;omega) (by omega) hbw.size ?_))
    intro v3 w3 hown3 hg3 _;have hb3':Below w.heap.size wr w3:=(Below.refl _ wr).grown hg3 hbw.size (zI ho1);have hb3:Below w.heap.size w w3:=hbw.trans hb3';have h03:=HC.out _ hb3';have hlen3:(acc++[44,32]).length≤acc.length+2:=by simp
    have ho3:zZ w3 w.heap.size v3 (acc++[44,32]):=znC acc ⟨#[44,32]⟩ hown3;clear hown3 hg3 ho1 ho hb3' h0 HC;generalize acc++[44,32]=acc3 at *;have ho4:=ho3;unfold zZ at ho4;have hbs:=hb3.size
    go_wp2_with (at_builtin;(refine Lib.wpList_append_own_string _ rfl _ _ 80 9 rfl w.heap.size 5 i0 Tryz.underlying80 Tryz.underlying9 hi0 hz0 hz1 hz2 _ _ _ rfl ho4 x rfl (by unfold maxLen;omega) (by omega) hbs ?_))
    intro v5 w5 hown5 hg5 _;have hb5:Below w.heap.size w w5:=hb3.grown hg5 hbs (zI ho4);have ho5:zZ w5 w.heap.size v5 (zaw (zs.take (k+1))).data.toList:=by
     rw[HX2.out];exact znC acc3 x hown5
    clear hown5 hg5 ho4
    go_wp2
    go_roundw
    case rel=>exact ⟨k+1,by omega,by go_num,ho5,hb5⟩
    case measure=>simp[RowKit.intOf];omega
  ·obtain rfl:k=zs.length:=by omega
   rw[List.take_length] at ho;have hcv:=ho.conv
   go_wp2
   go_ret
   exact ⟨rfl,hbw⟩
theorem zsl (w:World):zZ (w.alloc (.cells #[.int .u8 34] 5)) w.heap.size (.slice (some ⟨w.heap.size,0,none⟩) 1 1) [34]:=World.ownsRow_lit w #[.int .u8 34] 1 (Nat.le_refl _) (by unfold maxLen;omega) rfl
set_option maxRecDepth 20000 in
set_option maxHeartbeats 2000000 in
theorem zqS (s:ByteArray) (w:World) (hf:zcb s=true) (hs:s.size≤1099511627776):
  Calls Tryz.prog 45 #[.string s] w fun e w'=>e= .returned (.tuple #[.string (zcM s),.int .i64 0])∧Below w.heap.size w w':=by
 obtain ⟨i0,hi0,hz0,hz1,hz2⟩:=info_parts zcI;have HF:=hid (fun w=>zhQ s w (by unfold maxLen;omega));rw[hf] at HF;have HE:=hid (zjg s);have HZ:=hid (zin s);clear hf
 go_enter Tryz.func45,Tryz.ntmps45
 go_wp2_with fail
 refine (HF.out _).mono ?_;rintro e w1 ⟨rfl,rfl⟩
 go_wp2
 go_loopw [4,5] (fun v i wr=>∃k:Nat,k≤s.size∧i= .int .i64 k∧zZ wr w.heap.size v (zap s k)∧Below w.heap.size w wr) (fun _ i _=>s.size - (RowKit.intOf i).toNat)
 case atStart=>exact ⟨0,by omega,rfl,by rw[HZ.out];exact zsl w,(Below.refl _ w).alloc (Nat.le_refl _) _⟩
 case round=>
  obtain ⟨k,hk,rfl,ho,hbw⟩:=hrel;have hlen:=zjr s k
  by_cases hlt:k<s.size
  ·have hb:=@zE s k hlt
   have HQ:=hid (zkN s hlt);have hbb:((s[k].toNat:Nat):Int)=bt s k:=hb
   by_cases h34:bt s k=34
   ·have h34b:=beq_iff_eq.2 h34
    have HQ2:=hid (show zap s (k+1)=zap s k++[92]++[s[k]] by rw[HQ.out,if_pos (.inl h34),List.append_assoc];rfl);clear h34 HQ;generalize zap s k=acc at *;have ho11:=ho;unfold zZ at ho11;have hws1:=hbw.size
    go_wp2_with (at_builtin;refine wpList_append_own _ rfl _ _ 80 rfl w.heap.size 5 i0 (.int .u8 0) 1 1 Tryz.underlying80 hi0 hz0 hz1 hz2 rfl (by decide) _ _ _ rfl (ho11.alloc _) ⟨wr.heap.size,0,none⟩ 1 1 [.int .u8 92] rfl rfl (cell_one_new _ _ _) ?q1 ?q2 ?q3 ?q4 ?q5)
    case q1=>exact zcg _
    case q2=>unfold maxLen;omega
    case q3=>omega
    case q4=>simp;omega
    case q5=>
     intro v21 w21 hown2 hg2 _;have HB1:Below w.heap.size w w21:=(hbw.alloc hws1 _).grown hg2 (by simp;omega) (zI ho11);have HO1:zZ w21 w.heap.size v21 (acc++[92]):=by
      unfold zZ;rw[List.length_append,List.map_append,show ([92].map zat)=[.int .u8 92] by first|rfl|(simp[zat];exact hbb)];exact hown2
     clear hown2 hg2 ho11;have hl3:(acc++[92]).length≤acc.length+1:=by simp
     generalize acc++[92]=acc3 at *;have ho12:=HO1;unfold zZ at ho12;have hws2:=HB1.size
     go_wp2_with (at_builtin;refine wpList_append_own _ rfl _ _ 80 rfl w.heap.size 5 i0 (.int .u8 0) 1 1 Tryz.underlying80 hi0 hz0 hz1 hz2 rfl (by decide) _ _ _ rfl (ho12.alloc _) ⟨w21.heap.size,0,none⟩ 1 1 [.int .u8 (bt s k)] rfl rfl (cell_one_new _ _ _) ?qb1 ?qb2 ?qb3 ?qb4 ?qb5)
     case qb1=>exact zcg _
     case qb2=>unfold maxLen;omega
     case qb3=>omega
     case qb4=>simp;omega
     case qb5=>
      intro v22 w22 hown2 hg2 _;have HB2:Below w.heap.size w w22:=(HB1.alloc hws2 _).grown hg2 (by simp;omega) (zI ho12);have HO2:zZ w22 w.heap.size v22 (acc3++[s[k]]):=by
       unfold zZ;rw[List.length_append,List.map_append,show ([s[k]].map zat)=[.int .u8 (bt s k)] by first|rfl|(simp[zat];exact hbb)];exact hown2
      clear hown2 hg2 ho12
      go_wp2
      go_roundw
      case rel=>exact ⟨k+1,by omega,by go_num,by rw[HQ2.out];exact HO2,HB2⟩
      case measure=>simp[RowKit.intOf];omega
   ·have h34b:(bt s k==34)=false:=beq_eq_false_iff_ne.2 h34
    by_cases h92:bt s k=92
    ·have h92b:=beq_iff_eq.2 h92
     have HQ2:=hid (show zap s (k+1)=zap s k++[92]++[s[k]] by rw[HQ.out,if_pos (.inr h92),List.append_assoc];rfl);clear h34 h92 HQ;generalize zap s k=acc at *;have ho11:=ho;unfold zZ at ho11;have hws1:=hbw.size
     go_wp2_with (at_builtin;refine wpList_append_own _ rfl _ _ 80 rfl w.heap.size 5 i0 (.int .u8 0) 1 1 Tryz.underlying80 hi0 hz0 hz1 hz2 rfl (by decide) _ _ _ rfl (ho11.alloc _) ⟨wr.heap.size,0,none⟩ 1 1 [.int .u8 92] rfl rfl (cell_one_new _ _ _) ?r1 ?r2 ?r3 ?r4 ?r5)
     case r1=>exact zcg _
     case r2=>unfold maxLen;omega
     case r3=>omega
     case r4=>simp;omega
     case r5=>
      intro v21 w21 hown2 hg2 _;have HB1:Below w.heap.size w w21:=(hbw.alloc hws1 _).grown hg2 (by simp;omega) (zI ho11);have HO1:zZ w21 w.heap.size v21 (acc++[92]):=by
       unfold zZ;rw[List.length_append,List.map_append,show ([92].map zat)=[.int .u8 92] by first|rfl|(simp[zat];exact hbb)];exact hown2
      clear hown2 hg2 ho11;have hl3:(acc++[92]).length≤acc.length+1:=by simp
      generalize acc++[92]=acc3 at *;have ho12:=HO1;unfold zZ at ho12;have hws2:=HB1.size
      go_wp2_with (at_builtin;refine wpList_append_own _ rfl _ _ 80 rfl w.heap.size 5 i0 (.int .u8 0) 1 1 Tryz.underlying80 hi0 hz0 hz1 hz2 rfl (by decide) _ _ _ rfl (ho12.alloc _) ⟨w21.heap.size,0,none⟩ 1 1 [.int .u8 (bt s k)] rfl rfl (cell_one_new _ _ _) ?rb1 ?rb2 ?rb3 ?rb4 ?rb5)
      case rb1=>exact zcg _
      case rb2=>unfold maxLen;omega
      case rb3=>omega
      case rb4=>simp;omega
      case rb5=>
       intro v22 w22 hown2 hg2 _;have HB2:Below w.heap.size w w22:=(HB1.alloc hws2 _).grown hg2 (by simp;omega) (zI ho12);have HO2:zZ w22 w.heap.size v22 (acc3++[s[k]]):=by
        unfold zZ;rw[List.length_append,List.map_append,show ([s[k]].map zat)=[.int .u8 (bt s k)] by first|rfl|(simp[zat];exact hbb)];exact hown2
       clear hown2 hg2 ho12
       go_wp2
       go_roundw
       case rel=>exact ⟨k+1,by omega,by go_num,by rw[HQ2.out];exact HO2,HB2⟩
       case measure=>simp[RowKit.intOf];omega
    ·have h92b:(bt s k==92)=false:=beq_eq_false_iff_ne.2 h92
     have HQ2:=hid (show zap s (k+1)=zap s k++[s[k]] by rw[HQ.out,if_neg (fun g=>g.elim h34 h92)]);clear h34 h92 HQ;generalize zap s k=acc at *;have ho12:=ho;unfold zZ at ho12;have hws2:=hbw.size
     go_wp2_with (at_builtin;refine wpList_append_own _ rfl _ _ 80 rfl w.heap.size 5 i0 (.int .u8 0) 1 1 Tryz.underlying80 hi0 hz0 hz1 hz2 rfl (by decide) _ _ _ rfl (ho12.alloc _) ⟨wr.heap.size,0,none⟩ 1 1 [.int .u8 (bt s k)] rfl rfl (cell_one_new _ _ _) ?s1 ?s2 ?s3 ?s4 ?s5)
     case s1=>exact zcg _
     case s2=>unfold maxLen;omega
     case s3=>omega
     case s4=>simp;omega
     case s5=>
      intro v22 w22 hown2 hg2 _;have HB2:Below w.heap.size w w22:=(hbw.alloc hws2 _).grown hg2 (by simp;omega) (zI ho12);have HO2:zZ w22 w.heap.size v22 (acc++[s[k]]):=by
       unfold zZ;rw[List.length_append,List.map_append,show ([s[k]].map zat)=[.int .u8 (bt s k)] by first|rfl|(simp[zat];exact hbb)];exact hown2
      clear hown2 hg2 ho12
      go_wp2
      go_roundw
      case rel=>exact ⟨k+1,by omega,by go_num,by rw[HQ2.out];exact HO2,HB2⟩
      case measure=>simp[RowKit.intOf];omega
  ·obtain rfl:k=s.size:=by omega
   have HR:=hid HE.out;generalize zap s s.size=acc at *;have ho12:=ho;unfold zZ at ho12;have hws2:=hbw.size
   go_wp2_with (at_builtin;refine wpList_append_own _ rfl _ _ 80 rfl w.heap.size 5 i0 (.int .u8 0) 1 1 Tryz.underlying80 hi0 hz0 hz1 hz2 rfl (by decide) _ _ _ rfl (ho12.alloc _) ⟨wr.heap.size,0,none⟩ 1 1 [.int .u8 34] rfl rfl (cell_one_new _ _ _) ?u1 ?u2 ?u3 ?u4 ?u5)
   case u1=>exact zcg _
   case u2=>unfold maxLen;omega
   case u3=>omega
   case u4=>simp;omega
   case u5=>
    intro v22 w22 hown2 hg2 _;have HB2:Below w.heap.size w w22:=(hbw.alloc hws2 _).grown hg2 (by simp;omega) (zI ho12);have HO2:zZ w22 w.heap.size v22 (acc++[34]):=by
     unfold zZ;rw[List.length_append,List.map_append,show ([34].map zat)=[.int .u8 34] by first|rfl|(simp[zat];exact hbb)];exact hown2
    clear hown2 hg2 ho12;have hcv:=HO2.conv
    go_wp2
    go_ret2
    exact ⟨by rw[HR.out];rfl,HB2⟩
end Go.Proofs.YtbnafbdhomdcoaaGreatDoor
