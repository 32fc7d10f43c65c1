/-
 TgEn, without what this claim does not reach.
-/
import Derived.Test.YtbnafbdhomdcoaaGreatDoorZTgE
namespace Go.Proofs.YtbnafbdhomdcoaaGreatDoor.T5
open Go.RowKit Go.Shelf Go.Lib
theorem zdk {T e:TypeId} {B b:Nat} {bs:List Value} {w w':World} (h:Lib.IsBuilderF T e B b bs w) (hb:Below w.heap.size w w'):Lib.IsBuilderF T e B b bs w':=by
 have one:∀p,Lib.BuilderAtF T e B b p bs w→Lib.BuilderAtF T e B b p bs w':=fun p hp=>by
  have hlt:=hp.lt;obtain ⟨hB,v,hv,hown,hne⟩:=hp;exact ⟨hB,v,(hb.block b hlt).trans hv,hown.kept (row:=none) ⟨hb.os,hb.tape,hb.output,hb.size,fun k hk _=>hb.block k hk⟩ (by cases hv:v.ownBlock<;>simp),hne⟩
 exact h.elim (fun x=>.inl (one _ x)) (fun x=>.inr (one _ x))
def zng (w:World) (base:Nat) (l:List UInt8) (e:Ending) (w':World):Prop:=∃v,e= .returned v∧zZ w' base v l∧Below base w w'
set_option maxRecDepth 20000 in
set_option maxHeartbeats 2000000 in
theorem zu7 (base:Nat) (v:Value) (l:List UInt8) (b:UInt8) (w:World) (ho:zZ w base v l) (hbase:base≤w.heap.size) (hl:l.length≤70368744177664):
  Calls Tryz.prog 176 #[v,.int .u8 (b.toNat:Int),.bool true] w (zng w base (l++[b])):=by
 obtain ⟨i0,hi0,hz0,hz1,hz2⟩:=info_parts zcI;have ho':=ho;unfold zZ at ho'
 go_enter Tryz.func176,Tryz.ntmps176
 go_wp2_with (at_builtin;refine wpList_append_own _ rfl _ _ 80 rfl base 5 i0 (.int .u8 0) 1 1 Tryz.underlying80 hi0 hz0 hz1 hz2 rfl (by decide) _ _ _ rfl (ho'.alloc _) ⟨w.heap.size,0,none⟩ 1 1 [zat b] rfl rfl (cell_one_new _ _ _) ?c1 ?c2 ?c3 ?c4 ?c5)
 case c1=>exact zbq [b]
 case c2=>unfold maxLen;omega
 case c3=>omega
 case c4=>simp;omega
 case c5=>
  intro v' w2 hown2 hg2 _;have hb2:Below base w w2:=((Below.refl base w).alloc hbase _).grown hg2 (by simp;omega) (zI ho');have ho2:zZ w2 base v' (l++[b]):=by
   unfold zZ;rw[List.length_append,List.map_append];exact hown2
  go_wp2
  go_ret
  exact ⟨v',rfl,ho2,hb2⟩
theorem za1 (w:World) (cs:Array Value) (t:TypeId) {n:Nat} (hn:n=w.heap.size):Row (w.alloc (.cells cs t)) (some ⟨n,0,none⟩) cs.toList:=fun _=>by
 subst hn;refine ⟨_,0,rfl,by simp,fun j v hv=>?_⟩;rw[Nat.zero_add,World.cell?_alloc_new]
 simpa using hv
theorem zt7 {k:Nat} (h:k<16):((((⟨#[48,49,50,51,52,53,54,55,56,57,65,66,67,68,69,70]⟩:ByteArray)[k]'(show k<16 from h)).toNat:Nat):Int)=((zfA.data.toList.getD k 0).toNat:Int):=@zE zfA k h
theorem zvm (b:UInt8):(pct b).map zat=(#[.int .u8 37,.int .u8 ((zfA.data[b.toNat / 16]?.getD 0).toNat:Int),.int .u8 ((zfA.data[b.toNat % 16]?.getD 0).toNat:Int)]:Array Value).toList:=by simp[pct,zat]
theorem zar {B:Nat} {w w':World} (h:Below B w w'):Below B w w'.drew:=⟨h.os,h.tape,h.output,h.size,h.block⟩
set_option maxRecDepth 20000 in
set_option maxHeartbeats 2000000 in
theorem zwJ (base:Nat) (v:Value) (l:List UInt8) (b:UInt8) (w:World) (ho:zZ w base v l) (hbase:base≤w.heap.size) (hl:l.length≤70368744177664):
  Calls Tryz.prog 176 #[v,.int .u8 (b.toNat:Int),.bool false] w (zng w base (l++pct b)):=by
 obtain ⟨i0,hi0,hz0,hz1,hz2⟩:=info_parts zcI;have ho':=ho;unfold zZ at ho';have hb:=b.toNat_lt;have h1:(b.toNat:Int)<256:=by omega
 have hq:b.toNat / 16<16:=by omega
 have hr:b.toNat % 16<16:=by omega
 have hq1:((b.toNat:Int) / 16)<16:=by omega
 have hr1:((b.toNat:Int) % 16)<16:=by omega
 have hq0:0≤((b.toNat:Int) / 16):=by omega
 have hr0:0≤((b.toNat:Int) % 16):=by omega
 have hqn:((b.toNat:Int) / 16).toNat=b.toNat / 16:=by omega
 have hrn:((b.toNat:Int) % 16).toNat=b.toNat % 16:=by omega
 have hw1:IntKind.u8.wrap ((b.toNat:Int) / 16)=(b.toNat:Int) / 16:=IntWalk.u8_in _ (by omega);have hw2:IntKind.u8.wrap ((b.toNat:Int) % 16)=(b.toNat:Int) % 16:=IntWalk.u8_in _ (by omega);have htm:(b.toNat:Int).tmod 16=(b.toNat:Int) % 16:=IntWalk.rem_in _ _ (by omega);have u1:=zt7 hq;have u2:=zt7 hr
 go_enter Tryz.func176,Tryz.ntmps176
 go_wp2_with fail
 go_region_held3 (fun _=>True) (trivial) ((refine zaO _ rfl (.tmp 12) (.tmp 19) 80 rfl base 5 i0 (.int .u8 0) 1 1 Tryz.underlying80 hi0 hz0 hz1 hz2 rfl (by decide) _ _ _ (by rfl) (ho'.drew.alloc _) _ (some ⟨w.heap.size,0,none⟩) 3 3 ((pct b).map zat) (by rfl) (zv (by rw[zvm];exact (za1 _ _ _ rfl).drew) rfl (by decide)) (zbq _) (by unfold maxLen;omega) (by omega) (by simp;omega) ?_;intro v' w2 hown2 hg2 _))
 all_goals
  have hb2:Below base w w2:=(zar ((Below.refl base w).alloc hbase _)).grown hg2 (by simp;omega) (zI ho');have ho2:zZ w2 base v' (l++pct b):=by
   unfold zZ;rw[List.length_append,List.map_append];exact hown2
  clear hg2 hown2
  go_wp2
  go_ret
  exact ⟨v',rfl,ho2,hb2⟩
theorem zv8 (base:Nat) (v:Value) (l:List UInt8) (b:UInt8) (p:Bool) (w:World) (ho:zZ w base v l) (hbase:base≤w.heap.size) (hl:l.length≤70368744177664):
  Calls Tryz.prog 176 #[v,.int .u8 (b.toNat:Int),.bool p] w (zng w base (l++(if p=true then [b] else pct b))):=by
 cases p
 ·exact zwJ base v l b w ho hbase hl
 ·exact zu7 base v l b w ho hbase hl
end Go.Proofs.YtbnafbdhomdcoaaGreatDoor.T5
