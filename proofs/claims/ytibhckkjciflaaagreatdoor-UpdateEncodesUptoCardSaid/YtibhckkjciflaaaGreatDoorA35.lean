/- A part of the proof. -/
import Derived.Test.YtibhckkjciflaaaGreatDoorA32
import Derived.Test.YtibhckkjciflaaaGreatDoorA34
import Derived.Test.YtibhckkjciflaaaGreatDoorA24
import Derived.Shelf.Strings.Shaped
import Derived.Lib.LaidTab
import Derived.Test.YtibhckkjciflaaaGreatDoorA30
import Derived.Test.YtibhckkjciflaaaGreatDoorA31
import Derived.Test.YtibhckkjciflaaaGreatDoorRows
import Derived.Deep.Slices
import Derived.ChangeArms
import Derived.ProofKit
import Derived.OpenShut
set_option maxRecDepth 100000
set_option maxHeartbeats 8000000
namespace Go.gQ
open Go Go.aI
abbrev ala:dw:=ajN [] (fun _ h=>by cases h)
theorem alb:∀p∈Oa,jG p.1 p.2.1 p.2.2:=by
 unfold Oa
 intro p hp
 simp only[List.mem_cons,List.not_mem_nil,or_false]at hp
 rcases hp with rfl|rfl|rfl|rfl|rfl|rfl|rfl|rfl
 ·exact a0
 ·exact a1
 ·exact a2
 ·exact a3
 ·exact a4
 ·exact a5
 ·exact a6
 ·exact a7
end Go.gQ
namespace Go.Proofs.YtibhckkjciflaaaGreatDoor
open Go.RowKit Go.WW Go.aI Go.gQ
theorem ald:NF Tryz.prog 223:=fun bk o c xs sep w h1 h2 h3 h4 h5=>Tryz.strings_Join bk o c xs sep w h1 h2 h3 h4 h5
theorem ale:NY:=fun x b o cap ps hp hl w' hc=>agN x b o cap ps hp hl w' hc
theorem alf:NZ:=fun x y z w=>agO x y z w
structure xR(w:World):Prop where
 s0:w.heap[eH.s0]?=some (.cells ((eH.l0.map fun(n:Nat)=>Value.int .u32 n).toArray) eH.t0 (0,0))
 s1:w.heap[eH.s1]?=some (.cells ((eH.l1.map fun(n:Nat)=>Value.int .u32 n).toArray) eH.t1 (0,0))
 max:∃m:Int,w.cell? ⟨4,0,none⟩=some (.int .i64 m)
theorem xR.kept{W w:World}(h:xR W)(hb:Below W.heap.size W w):xR w:=by
 obtain⟨h0,h1,m,hm⟩:=h
 refine⟨?_,?_,m,?_⟩
 ·rw[hb.block _ (Array.getElem?_eq_some_iff.1 h0).1];exact h0
 ·rw[hb.block _ (Array.getElem?_eq_some_iff.1 h1).1];exact h1
 ·have hlt:=World.block_lt_of_cell? W _ hm
  rw[hb.cell (p:=⟨4,0,none⟩) hlt];exact hm
theorem alg{W:World}(h:xR W)(s t:ByteArray)(w:World)(hb:Kept (· < W.heap.size) W w)(hs:s.size<4294967281) :
  Calls Tryz.prog 256 #[.string s,.string t] w (fun e w'=>e=.returned (.int .i64 (Lib.index s.data.toList t.data.toList))∧w'=w):=by
 obtain⟨m,hm⟩:=(h.kept hb.below).max
 exact Any.stringslite_Index {Tryz.laysM219 with} s t m w hs hm
theorem Ib(w:World)(h:xR w):Calls Tryz.prog 5 #[] w fun e w'=>e=.returned (.bool true)∧Below w.heap.size w w':=by
 letI O:dw:=ala
 have hW:∀k,k<w.heap.size→k<w.heap.size:=fun _ hk=>hk
 have hO:zQ Ia Tryz.prog (· < w.heap.size) w:=
  VX (zX (ak1 ale alf alb rfl hW) (zX (ajX hW ald) (zX (aj1 hW (fun s t w1 hb hs=>alg h s t w1 hb hs)) (zX (NH hW Tryz.cloneS) (zX (NH hW Tryz.agP) (NH hW Tryz.agQ))))))
 have hS:=aj0 (G:=Ia.G) eH (w:=w) (show 10≤40 by omega) (show eH.s0<10 by decide) (show eH.s1<10 by decide) (f0:=(0,0)) (f1:=(0,0)) rfl rfl h.s0 h.s1
 have hl:=ajH (akL 40 Xe) hO hS (args:=[]) (by simp only[wfs]) ak9
 simp only[aF]at hl
 exact hl
end Go.Proofs.YtibhckkjciflaaaGreatDoor
namespace Go.Proofs.YtibhckkjciflaaaGreatDoor
open Go.RowKit Go.WW
theorem alh(n:Int)(w:World):Calls Tryz.prog 13 #[.int .i64 n] w fun e w'=>e=.returned (.int .i64 n)∧w=w':=by
 go_enter Tryz.func13,Tryz.ntmps13
 go_wp2
 go_ret
 exact⟨rfl,rfl⟩
theorem ali(x y:aT)(s u:Sl)(r q:aC)(w:World)(hx:dV w s r x)(hy:dV w u q y)(hv:xR w)(ht:uF Tryz.prog w):Calls Tryz.prog 3 #[.agg (aH x s r),.agg (aH y u q)] w fun e w'=>e=.returned (.bool true)∧Below w.heap.size w w':=by
 have HV:=Lib.hid hv
 have HT:=Lib.hid ht
 clear hv ht
 unfold aH
 go_enter Tryz.func3,Tryz.ntmps3
 iterate 2 go_step
 apply bK (M:=fun V=>Below w.heap.size w V∧V.heap[w.heap.size]?=some (.cells (aj x.i x.t x.m x.k s x.n r x.d x.q x.pn x.f x.a x.b) 36)∧V.heap[w.heap.size+1]?=some (.cells (aj y.i y.t y.m y.k u y.n q y.d y.q y.pn y.f y.a y.b) 36))
 case h1=>
  go_wp2_with fail
  exact⟨rfl,⟨az (az (Below.refl _ w) _) _,oK w _ _,by have:=World.alloc_heap_new (w.alloc (.cells (aj x.i x.t x.m x.k s x.n r x.d x.q x.pn x.f x.a x.b) 36)) (.cells (aj y.i y.t y.m y.k u y.n q y.d y.q y.pn y.f y.a y.b) 36);rwa[show(w.alloc (.cells (aj x.i x.t x.m x.k s x.n r x.d x.q x.pn x.f x.a x.b) 36)).heap.size=w.heap.size+1 by simp]at this⟩⟩
 rintro V0 ⟨hb0,hx0,hy0⟩
 have HB0:=Lib.hid hb0
 clear hb0
 obtain⟨hc1,hf1,hr1,hl1⟩:=aN hx0
 obtain⟨hc2,hf2,hr2,hl2⟩:=aN hy0
 have HX0:=Lib.hid hx0
 have Xf:=Lib.hid hy0
 clear hx0 hy0
 go_wp2_with fail
 refine(Sr x.i x.t x.m x.k s x.n r x.d x.q x.pn x.f x.a x.b _ (hx.1.later HB0.out) (hx.2.1.later HB0.out) hx.2.2.1 hx.2.2.2).mono ?_
 rintro e V1 ⟨rfl,hb1⟩
 have HB1:=Lib.hid (af HB0.out hb1)
 have lh:=Lib.hid ((hb1.block _ hl1).trans HX0.out)
 have Ob:=Lib.hid ((hb1.block _ hl2).trans Xf.out)
 clear hb1 hc1 hf1 hr1 hl1 hc2 hf2 hr2 hl2 HX0 Xf HB0
 obtain⟨hc1,hf1,hr1,hl1⟩:=aN lh.out
 obtain⟨hc2,hf2,hr2,hl2⟩:=aN Ob.out
 cases L1:wL (¬uG x.n x.d x.q x.pn)
 case true=>
  go_wp2_with fail
  refine(Ib _ (HV.out.kept HB1.out)).mono ?_
  rintro e V2 ⟨rfl,hb2⟩
  have HB2:=Lib.hid (af HB1.out hb2)
  go_wp2_with fail
  go_ret
  exact⟨rfl,HB2.out⟩
 go_wp2_with fail
 refine(Sr y.i y.t y.m y.k u y.n q y.d y.q y.pn y.f y.a y.b _ (hy.1.later HB1.out) (hy.2.1.later HB1.out) hy.2.2.1 hy.2.2.2).mono ?_
 rintro e V2 ⟨rfl,hb2⟩
 have HB2:=Lib.hid (af HB1.out hb2)
 have DU:=Lib.hid ((hb2.block _ hl1).trans lh.out)
 have Oc:=Lib.hid ((hb2.block _ hl2).trans Ob.out)
 clear hb2 hc1 hf1 hr1 hl1 hc2 hf2 hr2 hl2 lh Ob HB1
 obtain⟨hc1,hf1,hr1,hl1⟩:=aN DU.out
 obtain⟨hc2,hf2,hr2,hl2⟩:=aN Oc.out
 cases L2:wL (¬uG y.n y.d y.q y.pn)
 case true=>
  go_wp2_with fail
  refine(Ib _ (HV.out.kept HB2.out)).mono ?_
  rintro e V3 ⟨rfl,hb3⟩
  have HB3:=Lib.hid (af HB2.out hb3)
  go_wp2_with fail
  go_ret
  exact⟨rfl,HB3.out⟩
 clear L1 L2
 go_wp2_with fail
 refine(agC x s r _ (hx.later HB2.out)).mono ?_
 rintro e V3 ⟨s1,r1,rfl,hb3,hd3⟩
 have HM:=Lib.hid (show w.heap.size+1<V2.heap.size from hl2)
 have HB3:=Lib.hid (af HB2.out hb3)
 have Oe:=Lib.hid ((hb3.block _ hl1).trans DU.out)
 have Og:=Lib.hid ((hb3.block _ hl2).trans Oc.out)
 have HD3:=Lib.hid hd3
 clear hd3 hb3 hc1 hf1 hr1 hl1 hc2 hf2 hr2 hl2 DU Oc HB2
 obtain⟨hc1,hf1,hr1,hl1⟩:=aN Oe.out
 obtain⟨hc2,hf2,hr2,hl2⟩:=aN Og.out
 unfold aH
 go_wp2_with fail
 have hb4:=az (Below.refl _ V3) (.cells (aj x.i x.t x.m x.k s1 x.n r1 x.d x.q x.pn x.f x.a x.b) 36)
 have A8:=Lib.hid (World.alloc_heap_new V3 (.cells (aj x.i x.t x.m x.k s1 x.n r1 x.d x.q x.pn x.f x.a x.b) 36))
 have Oh:=Lib.hid ((hb4.block _ hl1).trans Oe.out)
 have Xg:=Lib.hid ((hb4.block _ hl2).trans Og.out)
 have HB4:=Lib.hid (af HB3.out hb4)
 have Xh:=Lib.hid (HD3.out _ (fun k hk=>hb4.block k hk.2)).1
 have Xi:=Lib.hid (xe.of HD3.out.out.2.1 (Nat.le_refl _) hb4)
 have Xj:=Lib.hid (xe.of HD3.out.out.2.2 (Nat.le_refl _) hb4)
 clear hb4 hc1 hf1 hr1 hl1 hc2 hf2 hr2 hl2 Oe Og HB3 HD3
 generalize V3.alloc (.cells (aj x.i x.t x.m x.k s1 x.n r1 x.d x.q x.pn x.f x.a x.b) 36)=V4 at *
 generalize V3.heap.size=bc at *
 generalize V2.heap.size=m at *
 obtain⟨hc1,hf1,hr1,hl1⟩:=aN Oh.out
 obtain⟨hc2,hf2,hr2,hl2⟩:=aN Xg.out
 obtain⟨hc3,hf3,hr3,hl3⟩:=aN A8.out
 have hself:∀(v:World),dV v s r x→Calls Tryz.prog 9 #[.agg (aj x.i x.t x.m x.k s x.n r x.d x.q x.pn x.f x.a x.b),.agg (aj x.i x.t x.m x.k s x.n r x.d x.q x.pn x.f x.a x.b)] v fun e w'=>e=.returned (.bool true)∧Below v.heap.size v w':=fun v hv=>by
  have:=wR x x s s r r v hv hv
  rwa[TI]at this
 have hcopy:∀(v:World),dV v s1 r1 x→dV v s r x→Calls Tryz.prog 10 #[.agg (aj x.i x.t x.m x.k s1 x.n r1 x.d x.q x.pn x.f x.a x.b),.agg (aj x.i x.t x.m x.k s x.n r x.d x.q x.pn x.f x.a x.b)] v fun e w'=>e=.returned (.bool true)∧Below v.heap.size v w':=fun v hv hw=>by
  have:=sF x x s1 s r1 r v hv hw
  rwa[TI]at this
 have Xk:=Lib.hid hself
 have Xl:=Lib.hid hcopy
 clear hself hcopy
 obtain⟨B1,hB1⟩:∃B,B=cZ x:=⟨_,rfl⟩
 obtain⟨B2,hB2⟩:∃B,B=bJ x y:=⟨_,rfl⟩
 have HB1:=Lib.hid hB1
 have HB2:=Lib.hid hB2
 clear hB1 hB2
 have hn1:(B1 != B1)=false:=by cases B1<;>rfl
 have hn2:(B2 != B2)=false:=by cases B2<;>rfl
 refine jr (Below.refl _ V4) (by kernel_rfl) (by kernel_rfl) ?_
 intro v1 hv1
 repeat (first|(refine ah (by rfl) ?_)|(refine ai (by rfl) (by rfl) (fun K hK=>?_);go_big_quiet_op;refine hK _ ?_;clear hK K))
 refine au (by rfl) (by rfl) (fun K hK=>?_)
 go_wp2_with fail
 refine(Ku x s r _ (hx.later (af HB4.out hv1))).mono ?_
 rintro e v2 ⟨rfl,hk2⟩
 rw[←HB1.out]
 have hv2:=af hv1 hk2
 clear hv1 hk2
 refine hK _ _ (ak hv2) ?_
 clear hK K
 repeat (first|(refine ah (by rfl) ?_)|(refine ai (by rfl) (by rfl) (fun K hK=>?_);go_big_quiet_op;refine hK _ ?_;clear hK K))
 refine au (by rfl) (by rfl) (fun K hK=>?_)
 go_wp2_with fail
 refine(Kw x s r _ (hx.later (af HB4.out hv2))).mono ?_
 rintro e v3 ⟨rfl,hk3⟩
 rw[←HB1.out]
 have hv3:=af hv2 hk3
 clear hv2 hk3
 refine hK _ _ (ak hv3) ?_
 clear hK K
 repeat (first|(refine ah (by rfl) ?_)|(refine ai (by rfl) (by rfl) (fun K hK=>?_);go_big_quiet_op;refine hK _ ?_;clear hK K))
 try rw[hn1]
 repeat (first|(refine ah (by rfl) ?_)|(refine ai (by rfl) (by rfl) (fun K hK=>?_);go_big_quiet_op;refine hK _ ?_;clear hK K))
 refine au (by rfl) (by rfl) (fun K hK=>?_)
 go_wp2_with fail
 refine(wR x y s u r q _ (hx.later (af HB4.out hv3)) (hy.later (af HB4.out hv3))).mono ?_
 rintro e v4 ⟨rfl,hk4⟩
 rw[←HB2.out]
 have hv4:=af hv3 hk4
 clear hv3 hk4
 refine hK _ _ (ak hv4) ?_
 clear hK K
 repeat (first|(refine ah (by rfl) ?_)|(refine ai (by rfl) (by rfl) (fun K hK=>?_);go_big_quiet_op;refine hK _ ?_;clear hK K))
 refine au (by rfl) (by rfl) (fun K hK=>?_)
 go_wp2_with fail
 refine(sF x y s u r q _ (hx.later (af HB4.out hv4)) (hy.later (af HB4.out hv4))).mono ?_
 rintro e v5 ⟨rfl,hk5⟩
 rw[←HB2.out]
 have hv5:=af hv4 hk5
 clear hv4 hk5
 refine hK _ _ (ak hv5) ?_
 clear hK K
 repeat (first|(refine ah (by rfl) ?_)|(refine ai (by rfl) (by rfl) (fun K hK=>?_);go_big_quiet_op;refine hK _ ?_;clear hK K))
 try rw[hn2]
 repeat (first|(refine ah (by rfl) ?_)|(refine ai (by rfl) (by rfl) (fun K hK=>?_);go_big_quiet_op;refine hK _ ?_;clear hK K))
 refine au (by rfl) (by rfl) (fun K hK=>?_)
 go_wp2_with fail
 refine(Xk.out _ (hx.later (af HB4.out hv5))).mono ?_
 rintro e v6 ⟨rfl,hk6⟩
 have hv6:=af hv5 hk6
 clear hv5 hk6
 refine hK _ _ (ak hv6) ?_
 clear hK K
 repeat (first|(refine ah (by rfl) ?_)|(refine ai (by rfl) (by rfl) (fun K hK=>?_);go_big_quiet_op;refine hK _ ?_;clear hK K))
 refine au (by rfl) (by rfl) (fun K hK=>?_)
 go_wp2_with fail
 refine(Xl.out _ (Xh.out.later hv6) (hx.later (af HB4.out hv6))).mono ?_
 rintro e v7 ⟨rfl,Xm⟩
 have hv7:=af hv6 Xm
 clear hv6 Xm
 refine hK _ _ (ak hv7) ?_
 clear hK K
 repeat (first|(refine ah (by rfl) ?_)|(refine ai (by rfl) (by rfl) (fun K hK=>?_);go_big_quiet_op;refine hK _ ?_;clear hK K))
 refine iH ?_
 have Xn:=Lib.hid ((hv7.block _ hl1).trans Oh.out)
 have Xo:=Lib.hid ((hv7.block _ hl3).trans A8.out)
 have Xp:=Lib.hid (af HB4.out hv7)
 have Xq:=Lib.hid (Xi.out.later hv7)
 have Xr:=Lib.hid (Xj.out.later hv7)
 have hlx:w.heap.size<v7.heap.size:=by have:=hv7.size;omega
 have hlc:bc<v7.heap.size:=by have:=hv7.size;omega
 have Xt:=Lib.hid hlx
 have Xu:=Lib.hid hlc
 have xU:=Lib.hid hx
 clear hc1 hf1 hr1 hl1 hc2 hf2 hr2 hl2 hc3 hf3 hr3 hl3 hn1 hn2 Xk Xl HB1 HB2 Oh Xg A8 HB4 Xh Xi Xj hv7 hlx hlc
 have ln1:x.n.parts.length≤4294967000:=xU.out.1.1.1
 have ln2:x.d.aliases.length≤4294967000:=xU.out.2.1.aliases.1
 clear hx hy
 have Oi:=Lib.hid (fun(wr:World) (h:mY (fun k=>m≤k∧k≠bc) v7 wr)=>(h.but.block bc Xu.out (fun e=>e.2 rfl)).trans Xo.out)
 have Oj:=Lib.hid (fun(wr:World) (h:mY (fun k=>m≤k∧k≠bc) v7 wr)=>(h.but.block w.heap.size Xt.out (fun e=>by have:=HM.out;have:=e.1;omega)).trans Xn.out)
 have Xv:=Lib.hid (fun(wr:World) (h:mY (fun k=>m≤k∧k≠bc) v7 wr)=>((But.of_below (S:=fun k=>w.heap.size≤k) Xp.out).trans (h.but.mono fun k (hk:m≤k∧k≠bc)=>(show w.heap.size≤k by have:=HM.out;have:=hk.1;omega))).below (Nat.le_refl _) fun k hk=>hk)
 go_wp2_with fail
 go_loopw [6] (fun i wr=>mY (fun k=>m≤k∧k≠bc) v7 wr∧∃k:Nat,k≤x.n.parts.length∧i=.int .i64 k) (fun i _=>x.n.parts.length-(intOf i).toNat)
 case atStart=>exact⟨mY.refl _ _,0,Nat.zero_le _,rfl⟩
 case round=>
  obtain⟨hsp,k,hk,rfl⟩:=hrel
  obtain⟨hcc,ax,hrr,hll⟩:=aN (Oi.out wr hsp)
  have Ic:=Lib.hid hsp
  clear hsp
  by_cases hlt:k<x.n.parts.length
  ·obtain⟨b,o,ha,hm,hnb,hcp⟩:=Xq.out k hlt
   have zZ:=Ic.out.put b (o+k*1) 1 hcp
   rw[Nat.mul_one]at zZ
   obtain⟨⟨v0,hc0⟩,hf0⟩:=agG zZ
   have hki:(k:Int)<(x.n.parts.length:Int):=by omega
   have Ie:=Lib.hid (Ic.out.cell (b:=b) (o:=o+k) ⟨hm,hnb⟩ zZ (.string ⟨#[99,104,97,110,103,101,100]⟩))
   clear hcp zZ hm hnb
   go_wp2_with fail
   go_roundw
   case rel=>exact⟨Ie.out,k+1,by omega,by go_num⟩
   case measure=>simp[intOf];omega
  go_wp2_with fail
  clear hcc ax hrr hll hlt hk ln1 Xq
  obtain⟨wo,hwo⟩:∃wo:World,wo=wr:=⟨_,rfl⟩
  subst hwo
  go_loopw [7] (fun i wr=>mY (fun k=>m≤k∧k≠bc) v7 wr∧∃k:Nat,k≤x.d.aliases.length∧i=.int .i64 k) (fun i _=>x.d.aliases.length-(intOf i).toNat)
  case atStart=>exact⟨Ic.out,0,Nat.zero_le _,rfl⟩
  case round=>
   obtain⟨hsp,k,hk,rfl⟩:=hrel
   obtain⟨hcc,ax,hrr,hll⟩:=aN (Oi.out wr hsp)
   have mQ:=Lib.hid hsp
   clear hsp
   by_cases hlt:k<x.d.aliases.length
   ·obtain⟨b,o,ha,hm,hnb,hcp⟩:=Xr.out k hlt
    have zZ:=mQ.out.put b (o+k*2) 2 hcp
    have hki:(k:Int)<(x.d.aliases.length:Int):=by omega
    have Ie:=Lib.hid (mQ.out.row (b:=b) (o:=o+k*2) (cs:=#[.slice none 0 0,.string ⟨#[]⟩]) ⟨hm,hnb⟩ zZ)
    clear hcp hm hnb
    have hone:dG #[Value.slice none 0 0,Value.string ⟨#[]⟩]=true:=by simp[dG,Value.oneCell']
    go_wp2_with fail
    go_roundw
    case rel=>first|exact⟨Ie.out,k+1,by omega,by go_num⟩|((repeat apply Exists.intro);exact⟨⟨Ie.out,k+1,by omega,by go_num⟩,rfl⟩)
    case measure=>simp[intOf];omega
   have xW:=Lib.hid (Xv.out wr mQ.out)
   obtain⟨hcx,hfx,hrx,hlx⟩:=aN (Oj.out wr mQ.out)
   have Ig:=Lib.hid (Oj.out wr mQ.out)
   go_wp2_with fail
   clear hcc ax hrr hll hlt hk Oi Oj Xv Xr Ic mQ Xn Xo Xp Xt Xu ln2
   have hll:=hlx
   cases hok:cZ x
   ·refine(agz x s r _ (xU.out.later xW.out) hok).mono ?_
    rintro e z1 ⟨rfl,hz1⟩
    have HB1:=Lib.hid (af xW.out hz1)
    have lh:=Lib.hid ((hz1.block _ hll).trans Ig.out)
    clear hz1 hcx hfx hrx hlx hll xW Ig
    obtain⟨hcc,ax,hrr,hll⟩:=aN lh.out
    go_wp2_with fail
    refine(Kw x s r _ (xU.out.later HB1.out)).mono ?_
    rintro e z2 ⟨rfl,hz2⟩
    rw[hok]
    have HB2:=Lib.hid (af HB1.out hz2)
    clear hz2 hcc ax hrr hll lh
    go_wp2_with fail
    refine(Ib _ (HV.out.kept HB2.out)).mono ?_
    rintro e z3 ⟨rfl,hz3⟩
    have HB3:=Lib.hid (af HB2.out hz3)
    go_wp2_with fail
    go_ret
    exact⟨rfl,HB3.out⟩
   ·refine(agA x s r _ (xU.out.later xW.out) hok (lY HT.out xW.out)).mono ?_
    rintro e z1 ⟨za,rfl,hz1,hd1⟩
    have HB1:=Lib.hid (af xW.out hz1)
    have lh:=Lib.hid ((hz1.block _ hll).trans Ig.out)
    have HD1:=Lib.hid hd1
    clear hz1 hd1 hcx hfx hrx hlx hll xW Ig
    obtain⟨hcc,ax,hrr,hll⟩:=aN lh.out
    go_wp2_with fail
    refine(Kw x s r _ (xU.out.later HB1.out)).mono ?_
    rintro e z2 ⟨rfl,hz2⟩
    rw[hok]
    have HB2:=Lib.hid (af HB1.out hz2)
    have DU:=Lib.hid ((hz2.block _ hll).trans lh.out)
    have HD2:=Lib.hid (HD1.out.later hz2)
    have HF:=Lib.hid (TJ hok)
    clear hz2 hcc ax hrr hll lh HD1 HB1 hok
    obtain⟨hcc,ax,hrr,hll⟩:=aN DU.out
    go_wp2_with fail
    obtain⟨S1,hS1⟩:∃S,S=(ByteArray.mk (qy x).toArray):=⟨_,rfl⟩
    have k1:∀v:Later z2,(convert 41 9 (.slice za.a (qy x).length za.cap)).run Tryz.prog v.w=.ok (.string S1) v.w:=fun v=>hS1▸uH za.a za.cap (qy x) _ (HD2.out.later v.b)
    have HS1:=Lib.hid hS1
    clear hS1
    have hbq:(S1.toList == S1.toList)=true:=by simp
    refine D6 (since z2) (sK 94) (by kernel_rfl) (by kernel_rfl) ⟨⟨World.drew z2,(Below.refl _ z2).drew⟩,rfl⟩ ?_
    have hz0:Below z2.heap.size z2 z2.drew:=(Below.refl _ z2).drew
    generalize z2.drew=v1 at hz0 ⊢
    repeat (first|(refine ah (by rfl) ?_)|(refine BO (by rfl) (by rfl) (fun K hK=>?_);go_big_quiet_op;refine hK _ ?_;clear hK K))
    refine E9 (by rfl) (by rfl) (fun K hK=>?_)
    go_wp2_with fail
    refine(agI x s r _ (xU.out.later (af HB2.out hz0)) HF.out).mono ?_
    rintro e v2 ⟨zb,rfl,hk2,hd2⟩
    have hv2:=af hz0 hk2
    have k2:=uH zb.a zb.cap (qy x) v2 hd2.out
    rw[←HS1.out]at k2
    clear hd2 hk2
    refine hK _ _ (ak hv2) ?_
    clear hK K
    repeat (first|(refine ah (by rfl) ?_)|(refine BO (by rfl) (by rfl) (fun K hK=>?_);go_big_quiet_op;refine hK _ ?_;clear hK K))
    refine E9 (by rfl) (by rfl) (fun K hK=>?_)
    go_wp2_with fail
    refine hK _ _ (ak hv2) ?_
    clear hK K
    repeat (first|(refine ah (by rfl) ?_)|(refine BO (by rfl) (by rfl) (fun K hK=>?_);go_big_quiet_op;refine hK _ ?_;clear hK K))
    refine E9 (by rfl) (by rfl) (fun K hK=>?_)
    go_wp2_with fail
    refine(alh _ _).mono ?_
    rintro e v3 ⟨rfl,rfl⟩
    refine hK _ _ (ak hv2) ?_
    clear hK K
    repeat (first|(refine ah (by rfl) ?_)|(refine BO (by rfl) (by rfl) (fun K hK=>?_);go_big_quiet_op;refine hK _ ?_;clear hK K))
    refine E9 (by rfl) (by rfl) (fun K hK=>?_)
    go_wp2_with fail
    refine(Ib _ (HV.out.kept (af HB2.out hv2))).mono ?_
    rintro e v4 ⟨rfl,hk4⟩
    have hv4:=af hv2 hk4
    refine hK _ _ (ak hv4) ?_
    clear hK K
    repeat (first|(refine ah (by rfl) ?_)|(refine BO (by rfl) (by rfl) (fun K hK=>?_);go_big_quiet_op;refine hK _ ?_;clear hK K))
    refine iH ?_
    have HB4:=Lib.hid (af HB2.out hv4)
    go_wp2_with fail
    go_ret
    exact⟨rfl,HB4.out⟩
end Go.Proofs.YtibhckkjciflaaaGreatDoor
namespace Go.Proofs.YtibhckkjciflaaaGreatDoor
open Go.ChangeShapes Go.WideShapes Go.ChangeAt Go.RowKit Go.WW Go.Deep
section
variable {H:Type}
theorem aln(d:DataW H):1≤Rows.uptoBulk d:=by
 cases d with
 |lit l=>cases l<;>simp[Rows.uptoBulk]
 |_=>simp[Rows.uptoBulk]
theorem Xw:∀(l:List (DataW H)),l.length≤Rows.uptoBulkAll l
 | []=>by simp[Rows.uptoBulkAll]
 |d::l=>by have:=aln d;have:=Xw l;simp[Rows.uptoBulkAll];omega
theorem Ol{d:DataW H}:∀{l:List (DataW H)},d∈l→Rows.uptoBulk d≤Rows.uptoBulkAll l
 | [],h=>by simp at h
 |e::l,h=>by
  rcases List.mem_cons.1 h with rfl|h
  ·simp[Rows.uptoBulkAll]
  ·have:=Ol h;simp[Rows.uptoBulkAll];omega
end
theorem alo{w:World}{b o n:Nat}{cs:List Value}(hn:cs.length=n)(h0:0<n)(h:∀j,j<n→w.cell? ⟨b,o+j,none⟩=cs[j]?):row? w b o n=some cs.toArray:=by
 have hlast:=h (n-1) (by omega)
 rw[List.getElem?_eq_getElem (by omega)]at hlast
 unfold row?
 cases hb:w.heap[b]? with
 |none=>exfalso;simp[World.cell?,hb]at hlast
 |some ob=>
  cases ob with
  |cells c t f=>
   rw[cell_of_row w b (o+(n-1)) c t f hb]at hlast
   have hl:=(Array.getElem?_eq_some_iff.1 hlast).1
   show(if o+n≤c.size then _ else _)=_
   rw[if_pos (by omega)]
   congr 1
   apply Array.ext_getElem?
   intro j
   rw[Array.getElem?_extract]
   by_cases hj:j<n
   ·rw[if_pos (by omega),←cell_of_row w b (o+j) c t f hb,h j hj];simp
   ·rw[if_neg (by omega)];simp;omega
  |_=>exfalso;simp[World.cell?,hb]at hlast
section
variable {H:Type} {enc:TypeId×Value→H} {P:Program} {w:World} {base:Nat} {spare:Nat→Bool} {held:Bool}
theorem Aa{t e:TypeId}{fuel k:Nat}{v:Value}{x:DataW H×List MemPlace}(ht:P.underlying t=some (.slice e))(hC:P.cellsOf e=k)(h0:0<k)(h:DataW.trod enc P w base spare held fuel t [v]=some x)(hb:Rows.uptoBulk x.1≤1048576) :
  ∃(s:Sl) (n:Nat),v=.slice s.a n s.cap∧n≤1048576∧∀i,i<n→∃b o cs fuel' y,s.a=some ⟨b,o,none⟩∧row? w b (o+i*k) k=some cs∧DataW.trod enc P w base spare held fuel' e cs.toList=some y∧Rows.uptoBulk y.1≤1048576:=by
 rcases open_slice ht h with⟨hcs,rfl⟩|⟨a,len,cap,m,n,D,Pl,hcs,hba,hle,hmax,hm,hx,hel⟩
 ·refine⟨⟨none,0⟩,0,by simpa using hcs,by omega,fun i hi=>by omega⟩
 ·rw[hx]at hb
  simp only[Rows.uptoBulk]at hb
  have hlen:=Xw ((List.range len).map D)
  simp only[List.length_map,List.length_range]at hlen
  refine⟨⟨some a,cap⟩,len,by simpa using hcs,by omega,fun i hi=>?_⟩
  have hml:len≤m:=by rw[hm];split<;>omega
  obtain⟨c0,hc0,_⟩:=hel 0 (by omega)
  rw[hC]at hc0
  obtain⟨_,hl0,alp⟩:=World.cells?_some hc0
  have hspot:a.spot=none:=by
   have h1:=alp 0 h0
   rw[List.getElem?_eq_getElem (by omega)]at h1
   simp only[Nat.zero_mul,Addr.add,if_true]at h1
   unfold World.cell? at h1
   split at h1
   ·split at h1
    ·cases h1
    ·rename_i hs;simpa using hs
   ·cases h1
  obtain⟨b,o,sp⟩:=a
  dsimp only at hspot
  subst hspot
  obtain⟨cs',hc',ht'⟩:=hel i (by omega)
  rw[hC]at hc'
  obtain⟨_,hl',hat'⟩:=World.cells?_some hc'
  refine⟨b,o,cs'.toArray,n,(D i,Pl i),rfl,alo hl' h0 (fun j hj=>?_),by simpa using ht',?_⟩
  ·have h1:=hat' j hj
   rw[Addr.add_mid,Addr.add_mid]at h1
   exact h1
  ·have:=Ol (d:=D i) (l:=(List.range len).map D) (List.mem_map.2 ⟨i,by simpa using hi,rfl⟩)
   show Rows.uptoBulk (D i)≤_
   omega
end
end Go.Proofs.YtibhckkjciflaaaGreatDoor
namespace Go.Proofs.YtibhckkjciflaaaGreatDoor
open Go.ChangeShapes Go.WideShapes Go.ChangeAt Go.RowKit Go.WW Go.Deep
theorem xX{α:Type}{R:Nat→α→Prop}:∀{n:Nat},(∀i,i<n→∃a,R i a)→∃l:List α,l.length=n∧∀i a,l[i]?=some a→R i a
 |0,_=>⟨[],rfl,fun i a h=>by simp at h⟩
 |n+1,h=>by
  obtain⟨l,hl,hr⟩:=xX (n:=n) (fun i hi=>h i (by omega))
  obtain⟨a,ha⟩:=h n (by omega)
  refine⟨l++[a],by simp[hl],fun i b hb=>?_⟩
  by_cases hi:i<n
  ·rw[List.getElem?_append_left (by omega)]at hb;exact hr i b hb
  ·have hil:=(List.getElem?_eq_some_iff.1 hb).1
   simp[hl]at hil
   obtain rfl:i=n:=by omega
   rw[List.getElem?_append_right (by omega)]at hb
   simp[hl]at hb
   subst hb;exact ha
theorem Ii:∀{cs:List Value},cs.length=1→∃c0,cs=[c0]
 | [c0],_=>⟨c0,rfl⟩
theorem alq:∀{cs:List Value},cs.length=2→∃c0 c1,cs=[c0,c1]
 | [c0,c1],_=>⟨c0,c1,rfl⟩
theorem alr:∀{cs:List Value},cs.length=3→∃c0 c1 c2,cs=[c0,c1,c2]
 | [c0,c1,c2],_=>⟨c0,c1,c2,rfl⟩
theorem als:∀{cs:List Value},cs.length=5→∃c0 c1 c2 c3 c4,cs=[c0,c1,c2,c3,c4]
 | [c0,c1,c2,c3,c4],_=>⟨c0,c1,c2,c3,c4,rfl⟩
theorem alu:∀{cs:List Value},cs.length=10→∃c0 c1 c2 c3 c4 c5 c6 c7 c8 c9,cs=[c0,c1,c2,c3,c4,c5,c6,c7,c8,c9]
 | [c0,c1,c2,c3,c4,c5,c6,c7,c8,c9],_=>⟨c0,c1,c2,c3,c4,c5,c6,c7,c8,c9,rfl⟩
theorem alv:∀{cs:List Value},cs.length=17→∃c0 c1 c2 c3 c4 c5 c6 c7 c8 c9 c10 c11 c12 c13 c14 c15 c16,cs=[c0,c1,c2,c3,c4,c5,c6,c7,c8,c9,c10,c11,c12,c13,c14,c15,c16]
 | [c0,c1,c2,c3,c4,c5,c6,c7,c8,c9,c10,c11,c12,c13,c14,c15,c16],_=>⟨c0,c1,c2,c3,c4,c5,c6,c7,c8,c9,c10,c11,c12,c13,c14,c15,c16,rfl⟩
theorem xY{n:Nat}(h:n≤1048576):n≤lim:=by unfold lim;omega
section
variable {H:Type} {enc:TypeId×Value→H} {w:World} {base:Nat} {spare:Nat→Bool} {held:Bool} {fuel:Nat} {x:DataW H×List MemPlace}
theorem Ac{P:Program}{T:TypeId}{fs:Array Field}{cs:List Value}(ht:P.underlying T=some (.struct fs))(h:DataW.trod enc P w base spare held fuel T cs=some x)(hb:Rows.uptoBulk x.1≤1048576) :
  cs.length=P.cellsOf T∧∃n,∀(i:Nat) (f:Field),fs[i]?=some f→∃y,DataW.trod enc P w base spare held n f.type ((cs.drop f.offset).take (P.cellsOf f.type))=some y∧Rows.uptoBulk y.1≤1048576:=by
 obtain⟨xs,n,_,hx,hlen,hxl,hf⟩:=DataW.trod_struct ht h
 refine⟨hlen,n,fun i f hi=>?_⟩
 have hil:i<xs.length:=by rw[hxl];exact(Array.getElem?_eq_some_iff.1 hi).1
 refine⟨xs[i],by rw[hf i f hi,List.getElem?_eq_getElem hil],?_⟩
 rw[hx]at hb
 simp only[Rows.uptoBulk]at hb
 have:=Ol (d:=xs[i].1) (l:=xs.map (·.1)) (List.mem_map.2 ⟨xs[i],List.getElem_mem hil,rfl⟩)
 omega
theorem take_one{cs:List Value}{o:Nat}{c:Value}(h:cs[o]?=some c):(cs.drop o).take 1=[c]:=by
 obtain⟨ho,rfl⟩:=List.getElem?_eq_some_iff.1 h
 rw[List.drop_eq_getElem_cons ho];rfl
theorem Ad:Tryz.prog.cellsOf 9=1:=by kernel_rfl
theorem alx:Tryz.prog.cellsOf 5=1:=by kernel_rfl
theorem jg:Tryz.prog.cellsOf 3=1:=by kernel_rfl
theorem aly:Tryz.prog.cellsOf 28=1:=by kernel_rfl
theorem Ij:Tryz.prog.cellsOf 25=2:=by kernel_rfl
theorem Xx:Tryz.prog.cellsOf 151=3:=by kernel_rfl
theorem Xy:Tryz.prog.cellsOf 49=5:=by kernel_rfl
theorem Xz:Tryz.prog.cellsOf 32=17:=by kernel_rfl
theorem XA:Tryz.prog.cellsOf 34=10:=by kernel_rfl
theorem alz:Tryz.prog.cellsOf 23=1:=by kernel_rfl
theorem XB:Tryz.prog.cellsOf 41=1:=by kernel_rfl
theorem Om:Tryz.prog.cellsOf 26=1:=by kernel_rfl
theorem alA:Tryz.prog.cellsOf 29=1:=by kernel_rfl
theorem alB:Tryz.prog.cellsOf 47=1:=by kernel_rfl
theorem alC:Tryz.prog.cellsOf 30=1:=by kernel_rfl
theorem Ae{v:Value}(h:DataW.trod enc Tryz.prog w base spare held fuel 9 [v]=some x)(hb:Rows.uptoBulk x.1≤1048576):∃s:ByteArray,v=.string s∧s.size≤lim:=by
 obtain⟨s,hs,hx,_⟩:=DataW.trod_string Tryz.underlying9 h
 refine⟨s,by simpa using hs,?_⟩
 rw[hx]at hb
 simp[Rows.uptoBulk]at hb
 exact xY (by omega)
theorem jq{v:Value}(h:DataW.trod enc Tryz.prog w base spare held fuel 3 [v]=some x):∃n:Int,v=.int .i64 n:=by
 obtain⟨n,hs,_,_⟩:=DataW.trod_int Tryz.underlying3 h
 exact⟨n,by simpa using hs⟩
theorem alD{v:Value}(h:DataW.trod enc Tryz.prog w base spare held fuel 23 [v]=some x)(hb:Rows.uptoBulk x.1≤1048576):∃(s:Sl) (l:List ByteArray),v=.slice s.a l.length s.cap∧lK w s.a l:=by
 obtain⟨s,n,hv,hn,hel⟩:=Aa Tryz.underlying23 Ad (by omega) h hb
 obtain⟨l,hl,hr⟩:=xX (R:=fun i (a:ByteArray)=>∃b o,s.a=some ⟨b,o,none⟩∧w.cell? ⟨b,o+i,none⟩=some (.string a)∧a.size≤lim) (n:=n) (fun i hi=>by
  obtain⟨b,o,cs,f',y,ha,hrow,ht,hby⟩:=hel i hi
  have hc:=kF hrow 0 (by omega)
  have hsz:=yc hrow
  obtain⟨c,hcs⟩:∃c,cs.toList=[c]:=by
   obtain⟨l⟩:=cs
   match l,hsz with
   | [c],_=>exact⟨c,rfl⟩
  rw[hcs]at ht
  obtain⟨a,rfl,hs⟩:=Ae ht hby
  refine⟨a,b,o,ha,?_,hs⟩
  have e:cs[0]?=some (.string a):=by rw[←Array.getElem?_toList,hcs];rfl
  rw[e]at hc
  simpa using hc)
 refine⟨s,l,by rw[hl];exact hv,by rw[hl];exact xY hn,fun i hi=>?_⟩
 obtain⟨b,o,h1,h2,h3⟩:=hr i l[i] (List.getElem?_eq_getElem hi)
 exact⟨b,o,_,h1,h2,l[i],List.getElem?_eq_getElem hi,rfl,h3⟩
theorem Oo{cs:List Value}(h:DataW.trod enc Tryz.prog w base spare held fuel 25 cs=some x)(hb:Rows.uptoBulk x.1≤1048576):∃(s:Sl) (p:aG),cs=(aJ s p).toList∧gu w s p:=by
 obtain⟨hl,n,hf⟩:=Ac Tryz.underlying25 h hb
 rw[Ij]at hl
 obtain⟨c0,c1,rfl⟩:=alq hl
 obtain⟨y0,t0,b0⟩:=hf 0 _ rfl
 replace t0:DataW.trod enc Tryz.prog w base spare held n 23 (([c0,c1].drop 0).take (Tryz.prog.cellsOf 23))=some y0:=t0
 rw[alz,take_one (c:=c0) rfl]at t0
 obtain⟨y1,t1,b1⟩:=hf 1 _ rfl
 replace t1:DataW.trod enc Tryz.prog w base spare held n 9 (([c0,c1].drop 1).take (Tryz.prog.cellsOf 9))=some y1:=t1
 rw[Ad,take_one (c:=c1) rfl]at t1
 obtain⟨s0,n0,rfl,hs0⟩:=alD t0 b0
 obtain⟨n1,rfl,hs1⟩:=Ae t1 b1
 exact⟨s0,⟨n0,n1⟩,rfl,hs0,hs1⟩
theorem Oq{v:Value}(h:DataW.trod enc Tryz.prog w base spare held fuel 26 [v]=some x)(hb:Rows.uptoBulk x.1≤1048576):∃(s:Sl) (l:List aG),v=.slice s.a l.length s.cap∧fH w s.a l:=by
 obtain⟨s,n,hv,hn,hel⟩:=Aa Tryz.underlying26 Ij (by omega) h hb
 obtain⟨l,hl,hr⟩:=xX (R:=fun i (a:aG)=>∃b o t,s.a=some ⟨b,o,none⟩∧row? w b (o+i*2) 2=some (aJ t a)∧gu w t a) (n:=n) (fun i hi=>by
  obtain⟨b,o,cs,f',y,ha,hrow,ht,hby⟩:=hel i hi
  obtain⟨t,p,hcs,hp⟩:=Oo ht hby
  exact⟨p,b,o,t,ha,by rw[hrow,←Array.toList_inj.1 hcs],hp⟩)
 refine⟨s,l,by rw[hl];exact hv,by rw[hl];exact xY hn,fun i hi=>?_⟩
 obtain⟨b,o,t,h1,h2,h3⟩:=hr i l[i] (List.getElem?_eq_getElem hi)
 exact⟨b,o,_,h1,h2,l[i],t,List.getElem?_eq_getElem hi,rfl,h3⟩
theorem alE{v:Value}(h:DataW.trod enc Tryz.prog w base spare held fuel 5 [v]=some x):∃c:UInt8,v=.int .u8 c.toNat:=by
 obtain⟨n,hs,_,hw⟩:=DataW.trod_int Tryz.underlying5 h
 have hw':0≤n∧n≤255:=by
  simp only[Lit.wf,Bool.and_eq_true,decide_eq_true_eq]at hw
  exact⟨hw.1,hw.2⟩
 refine⟨UInt8.ofNat n.toNat,?_⟩
 have e:((UInt8.ofNat n.toNat).toNat:Int)=n:=by
  have:n.toNat<256:=by omega
  rw[UInt8.toNat_ofNat_of_lt' (by simpa using this)];omega
 rw[e];simpa using hs
theorem XC{v:Value}(h:DataW.trod enc Tryz.prog w base spare held fuel 41 [v]=some x)(hb:Rows.uptoBulk x.1≤1048576):∃(s:Sl) (l:List UInt8),v=.slice s.a l.length s.cap∧BytesAt w s.a l:=by
 obtain⟨s,n,hv,hn,hel⟩:=Aa Tryz.underlying41 alx (by omega) h hb
 obtain⟨l,hl,hr⟩:=xX (R:=fun i (a:UInt8)=>∃b o v,s.a=some ⟨b,o,none⟩∧w.cell? ⟨b,o+i,none⟩=some v∧v=.int .u8 a.toNat) (n:=n) (fun i hi=>by
  obtain⟨b,o,cs,f',y,ha,hrow,ht,hby⟩:=hel i hi
  have hc:=kF hrow 0 (by omega)
  obtain⟨c,hcs⟩:=Ii (cs:=cs.toList) (by simpa using yc hrow)
  have e:cs[0]?=some c:=by rw[←Array.getElem?_toList,hcs];rfl
  rw[hcs]at ht
  rw[e]at hc
  obtain⟨a,rfl⟩:=alE ht
  exact⟨a,b,o,_,ha,by simpa using hc,rfl⟩)
 refine⟨s,l,by rw[hl];exact hv,by rw[hl];exact xY hn,fun i hi=>?_⟩
 obtain⟨b,o,v,h1,h2,h3⟩:=hr i l[i] (List.getElem?_eq_getElem hi)
 exact⟨b,o,v,h1,h2,l[i],List.getElem?_eq_getElem hi,h3⟩
theorem alF{cs:List Value}(h:DataW.trod enc Tryz.prog w base spare held fuel 151 cs=some x)(hb:Rows.uptoBulk x.1≤1048576):∃(s:Sl) (p:Key),cs=(bG s p).toList∧iR w s p:=by
 obtain⟨hl,n,hf⟩:=Ac Tryz.underlying151 h hb
 rw[Xx]at hl
 obtain⟨c0,c1,c2,rfl⟩:=alr hl
 obtain⟨y0,t0,b0⟩:=hf 0 _ rfl
 replace t0:DataW.trod enc Tryz.prog w base spare held n 3 (([c0,c1,c2].drop 0).take (Tryz.prog.cellsOf 3))=some y0:=t0
 rw[jg,take_one (c:=c0) rfl]at t0
 obtain⟨y1,t1,b1⟩:=hf 1 _ rfl
 replace t1:DataW.trod enc Tryz.prog w base spare held n 3 (([c0,c1,c2].drop 1).take (Tryz.prog.cellsOf 3))=some y1:=t1
 rw[jg,take_one (c:=c1) rfl]at t1
 obtain⟨y2,t2,b2⟩:=hf 2 _ rfl
 replace t2:DataW.trod enc Tryz.prog w base spare held n 41 (([c0,c1,c2].drop 2).take (Tryz.prog.cellsOf 41))=some y2:=t2
 rw[XB,take_one (c:=c2) rfl]at t2
 obtain⟨n0,rfl⟩:=jq t0
 clear b0
 obtain⟨n1,rfl⟩:=jq t1
 clear b1
 obtain⟨s2,n2,rfl,hs2⟩:=XC t2 b2
 exact⟨s2,⟨n0,n1,n2⟩,rfl,hs2⟩
theorem alG{v:Value}(h:DataW.trod enc Tryz.prog w base spare held fuel 47 [v]=some x)(hb:Rows.uptoBulk x.1≤1048576):∃(s:Sl) (l:List Key),v=.slice s.a l.length s.cap∧jw w s.a l:=by
 obtain⟨s,n,hv,hn,hel⟩:=Aa Tryz.underlying47 Xx (by omega) h hb
 obtain⟨l,hl,hr⟩:=xX (R:=fun i (a:Key)=>∃b o t,s.a=some ⟨b,o,none⟩∧row? w b (o+i*3) 3=some (bG t a)∧iR w t a) (n:=n) (fun i hi=>by
  obtain⟨b,o,cs,f',y,ha,hrow,ht,hby⟩:=hel i hi
  obtain⟨t,p,hcs,hp⟩:=alF ht hby
  exact⟨p,b,o,t,ha,by rw[hrow,←Array.toList_inj.1 hcs],hp⟩)
 refine⟨s,l,by rw[hl];exact hv,by rw[hl];exact xY hn,fun i hi=>?_⟩
 obtain⟨b,o,t,h1,h2,h3⟩:=hr i l[i] (List.getElem?_eq_getElem hi)
 exact⟨b,o,_,h1,h2,l[i],t,List.getElem?_eq_getElem hi,rfl,h3⟩
theorem alH{cs:List Value}(h:DataW.trod enc Tryz.prog w base spare held fuel 49 cs=some x)(hb:Rows.uptoBulk x.1≤1048576):∃(s:Sl) (p:aW),cs=(aV s p).toList∧ig w s p:=by
 obtain⟨hl,n,hf⟩:=Ac Tryz.underlying49 h hb
 rw[Xy]at hl
 obtain⟨c0,c1,c2,c3,c4,rfl⟩:=als hl
 obtain⟨y0,t0,b0⟩:=hf 0 _ rfl
 replace t0:DataW.trod enc Tryz.prog w base spare held n 3 (([c0,c1,c2,c3,c4].drop 0).take (Tryz.prog.cellsOf 3))=some y0:=t0
 rw[jg,take_one (c:=c0) rfl]at t0
 obtain⟨y1,t1,b1⟩:=hf 1 _ rfl
 replace t1:DataW.trod enc Tryz.prog w base spare held n 47 (([c0,c1,c2,c3,c4].drop 1).take (Tryz.prog.cellsOf 47))=some y1:=t1
 rw[alB,take_one (c:=c1) rfl]at t1
 obtain⟨y2,t2,b2⟩:=hf 2 _ rfl
 replace t2:DataW.trod enc Tryz.prog w base spare held n 9 (([c0,c1,c2,c3,c4].drop 2).take (Tryz.prog.cellsOf 9))=some y2:=t2
 rw[Ad,take_one (c:=c2) rfl]at t2
 obtain⟨y3,t3,b3⟩:=hf 3 _ rfl
 replace t3:DataW.trod enc Tryz.prog w base spare held n 3 (([c0,c1,c2,c3,c4].drop 3).take (Tryz.prog.cellsOf 3))=some y3:=t3
 rw[jg,take_one (c:=c3) rfl]at t3
 obtain⟨y4,t4,b4⟩:=hf 4 _ rfl
 replace t4:DataW.trod enc Tryz.prog w base spare held n 3 (([c0,c1,c2,c3,c4].drop 4).take (Tryz.prog.cellsOf 3))=some y4:=t4
 rw[jg,take_one (c:=c4) rfl]at t4
 obtain⟨n0,rfl⟩:=jq t0
 clear b0
 obtain⟨s1,n1,rfl,hs1⟩:=alG t1 b1
 obtain⟨n2,rfl,hs2⟩:=Ae t2 b2
 obtain⟨n3,rfl⟩:=jq t3
 clear b3
 obtain⟨n4,rfl⟩:=jq t4
 clear b4
 exact⟨s1,⟨n0,n1,n2,n3,n4⟩,rfl,hs1,hs2⟩
theorem alI{v:Value}(h:DataW.trod enc Tryz.prog w base spare held fuel 29 [v]=some x)(hb:Rows.uptoBulk x.1≤1048576):∃(s:Sl) (l:List aW),v=.slice s.a l.length s.cap∧kV w s.a l:=by
 obtain⟨s,n,hv,hn,hel⟩:=Aa Tryz.underlying29 Xy (by omega) h hb
 obtain⟨l,hl,hr⟩:=xX (R:=fun i (a:aW)=>∃b o t,s.a=some ⟨b,o,none⟩∧row? w b (o+i*5) 5=some (aV t a)∧ig w t a) (n:=n) (fun i hi=>by
  obtain⟨b,o,cs,f',y,ha,hrow,ht,hby⟩:=hel i hi
  obtain⟨t,p,hcs,hp⟩:=alH ht hby
  exact⟨p,b,o,t,ha,by rw[hrow,←Array.toList_inj.1 hcs],hp⟩)
 refine⟨s,l,by rw[hl];exact hv,by rw[hl];exact xY hn,fun i hi=>?_⟩
 obtain⟨b,o,t,h1,h2,h3⟩:=hr i l[i] (List.getElem?_eq_getElem hi)
 exact⟨b,o,_,h1,h2,l[i],t,List.getElem?_eq_getElem hi,rfl,h3⟩
theorem alJ{v:Value}(h:DataW.trod enc Tryz.prog w base spare held fuel 30 [v]=some x)(hb:Rows.uptoBulk x.1≤1048576):∃(s:Sl) (l:List (List UInt8)),v=.slice s.a l.length s.cap∧dH w s.a l:=by
 obtain⟨s,n,hv,hn,hel⟩:=Aa Tryz.underlying30 XB (by omega) h hb
 obtain⟨l,hl,hr⟩:=xX (R:=fun i (a:(List UInt8))=>∃b o v,s.a=some ⟨b,o,none⟩∧w.cell? ⟨b,o+i,none⟩=some v∧∃s':Sl,v=.slice s'.a a.length s'.cap∧BytesAt w s'.a a) (n:=n) (fun i hi=>by
  obtain⟨b,o,cs,f',y,ha,hrow,ht,hby⟩:=hel i hi
  have hc:=kF hrow 0 (by omega)
  obtain⟨c,hcs⟩:=Ii (cs:=cs.toList) (by simpa using yc hrow)
  have e:cs[0]?=some c:=by rw[←Array.getElem?_toList,hcs];rfl
  rw[hcs]at ht
  rw[e]at hc
  obtain⟨s',a,rfl,hs'⟩:=XC ht hby
  exact⟨a,b,o,_,ha,by simpa using hc,s',rfl,hs'⟩)
 refine⟨s,l,by rw[hl];exact hv,by rw[hl];exact xY hn,fun i hi=>?_⟩
 obtain⟨b,o,v,h1,h2,h3⟩:=hr i l[i] (List.getElem?_eq_getElem hi)
 obtain⟨s',h4,h5⟩:=h3
 exact⟨b,o,v,h1,h2,l[i],s',List.getElem?_eq_getElem hi,h4,h5⟩
end
end Go.Proofs.YtibhckkjciflaaaGreatDoor
namespace Go.Proofs.YtibhckkjciflaaaGreatDoor
open Go.ChangeShapes Go.WideShapes Go.ChangeAt Go.RowKit Go.WW Go.Deep
section
variable {H:Type} {enc:TypeId×Value→H} {w:World} {base:Nat} {spare:Nat→Bool} {held:Bool} {fuel:Nat} {x:DataW H×List MemPlace}
theorem alK{v:Value}(h:DataW.trod enc Tryz.prog w base spare held fuel 28 [v]=some x):∃n:Int,v=.int .u32 n∧0≤n∧n≤4294967295:=by
 obtain⟨n,hs,_,hw⟩:=DataW.trod_int Tryz.underlying28 h
 simp only[Lit.wf,Bool.and_eq_true,decide_eq_true_eq]at hw
 exact⟨n,by simpa using hs,hw.1,hw.2⟩
theorem alL{cs:List Value}(h:DataW.trod enc Tryz.prog w base spare held fuel 32 cs=some x)(hb:Rows.uptoBulk x.1≤1048576):∃(r:aC) (d:Entry),cs=(ay r d).toList∧iT w r d:=by
 obtain⟨hl,n,hf⟩:=Ac Tryz.underlying32 h hb
 rw[Xz]at hl
 obtain⟨c0,c1,c2,c3,c4,c5,c6,c7,c8,c9,c10,c11,c12,c13,c14,c15,c16,rfl⟩:=alv hl
 obtain⟨y0,t0,b0⟩:=hf 0 _ rfl
 replace t0:DataW.trod enc Tryz.prog w base spare held n 25 (([c0,c1,c2,c3,c4,c5,c6,c7,c8,c9,c10,c11,c12,c13,c14,c15,c16].drop 0).take (Tryz.prog.cellsOf 25))=some y0:=t0
 rw[Ij]at t0
 replace t0:DataW.trod enc Tryz.prog w base spare held n 25 [c0,c1]=some y0:=t0
 obtain⟨y1,t1,b1⟩:=hf 1 _ rfl
 replace t1:DataW.trod enc Tryz.prog w base spare held n 26 (([c0,c1,c2,c3,c4,c5,c6,c7,c8,c9,c10,c11,c12,c13,c14,c15,c16].drop 2).take (Tryz.prog.cellsOf 26))=some y1:=t1
 rw[Om,take_one (c:=c2) rfl]at t1
 obtain⟨y2,t2,b2⟩:=hf 2 _ rfl
 replace t2:DataW.trod enc Tryz.prog w base spare held n 28 (([c0,c1,c2,c3,c4,c5,c6,c7,c8,c9,c10,c11,c12,c13,c14,c15,c16].drop 3).take (Tryz.prog.cellsOf 28))=some y2:=t2
 rw[aly,take_one (c:=c3) rfl]at t2
 obtain⟨y3,t3,b3⟩:=hf 3 _ rfl
 replace t3:DataW.trod enc Tryz.prog w base spare held n 3 (([c0,c1,c2,c3,c4,c5,c6,c7,c8,c9,c10,c11,c12,c13,c14,c15,c16].drop 4).take (Tryz.prog.cellsOf 3))=some y3:=t3
 rw[jg,take_one (c:=c4) rfl]at t3
 obtain⟨y4,t4,b4⟩:=hf 4 _ rfl
 replace t4:DataW.trod enc Tryz.prog w base spare held n 29 (([c0,c1,c2,c3,c4,c5,c6,c7,c8,c9,c10,c11,c12,c13,c14,c15,c16].drop 5).take (Tryz.prog.cellsOf 29))=some y4:=t4
 rw[alA,take_one (c:=c5) rfl]at t4
 obtain⟨y5,t5,b5⟩:=hf 5 _ rfl
 replace t5:DataW.trod enc Tryz.prog w base spare held n 9 (([c0,c1,c2,c3,c4,c5,c6,c7,c8,c9,c10,c11,c12,c13,c14,c15,c16].drop 6).take (Tryz.prog.cellsOf 9))=some y5:=t5
 rw[Ad,take_one (c:=c6) rfl]at t5
 obtain⟨y6,t6,b6⟩:=hf 6 _ rfl
 replace t6:DataW.trod enc Tryz.prog w base spare held n 3 (([c0,c1,c2,c3,c4,c5,c6,c7,c8,c9,c10,c11,c12,c13,c14,c15,c16].drop 7).take (Tryz.prog.cellsOf 3))=some y6:=t6
 rw[jg,take_one (c:=c7) rfl]at t6
 obtain⟨y7,t7,b7⟩:=hf 7 _ rfl
 replace t7:DataW.trod enc Tryz.prog w base spare held n 3 (([c0,c1,c2,c3,c4,c5,c6,c7,c8,c9,c10,c11,c12,c13,c14,c15,c16].drop 8).take (Tryz.prog.cellsOf 3))=some y7:=t7
 rw[jg,take_one (c:=c8) rfl]at t7
 obtain⟨y8,t8,b8⟩:=hf 8 _ rfl
 replace t8:DataW.trod enc Tryz.prog w base spare held n 3 (([c0,c1,c2,c3,c4,c5,c6,c7,c8,c9,c10,c11,c12,c13,c14,c15,c16].drop 9).take (Tryz.prog.cellsOf 3))=some y8:=t8
 rw[jg,take_one (c:=c9) rfl]at t8
 obtain⟨y9,t9,b9⟩:=hf 9 _ rfl
 replace t9:DataW.trod enc Tryz.prog w base spare held n 3 (([c0,c1,c2,c3,c4,c5,c6,c7,c8,c9,c10,c11,c12,c13,c14,c15,c16].drop 10).take (Tryz.prog.cellsOf 3))=some y9:=t9
 rw[jg,take_one (c:=c10) rfl]at t9
 obtain⟨Ot,t10,b10⟩:=hf 10 _ rfl
 replace t10:DataW.trod enc Tryz.prog w base spare held n 3 (([c0,c1,c2,c3,c4,c5,c6,c7,c8,c9,c10,c11,c12,c13,c14,c15,c16].drop 11).take (Tryz.prog.cellsOf 3))=some Ot:=t10
 rw[jg,take_one (c:=c11) rfl]at t10
 obtain⟨y11,t11,b11⟩:=hf 11 _ rfl
 replace t11:DataW.trod enc Tryz.prog w base spare held n 3 (([c0,c1,c2,c3,c4,c5,c6,c7,c8,c9,c10,c11,c12,c13,c14,c15,c16].drop 12).take (Tryz.prog.cellsOf 3))=some y11:=t11
 rw[jg,take_one (c:=c12) rfl]at t11
 obtain⟨y12,t12,b12⟩:=hf 12 _ rfl
 replace t12:DataW.trod enc Tryz.prog w base spare held n 3 (([c0,c1,c2,c3,c4,c5,c6,c7,c8,c9,c10,c11,c12,c13,c14,c15,c16].drop 13).take (Tryz.prog.cellsOf 3))=some y12:=t12
 rw[jg,take_one (c:=c13) rfl]at t12
 obtain⟨y13,t13,b13⟩:=hf 13 _ rfl
 replace t13:DataW.trod enc Tryz.prog w base spare held n 26 (([c0,c1,c2,c3,c4,c5,c6,c7,c8,c9,c10,c11,c12,c13,c14,c15,c16].drop 14).take (Tryz.prog.cellsOf 26))=some y13:=t13
 rw[Om,take_one (c:=c14) rfl]at t13
 obtain⟨y14,t14,b14⟩:=hf 14 _ rfl
 replace t14:DataW.trod enc Tryz.prog w base spare held n 26 (([c0,c1,c2,c3,c4,c5,c6,c7,c8,c9,c10,c11,c12,c13,c14,c15,c16].drop 15).take (Tryz.prog.cellsOf 26))=some y14:=t14
 rw[Om,take_one (c:=c15) rfl]at t14
 obtain⟨y15,t15,b15⟩:=hf 15 _ rfl
 replace t15:DataW.trod enc Tryz.prog w base spare held n 30 (([c0,c1,c2,c3,c4,c5,c6,c7,c8,c9,c10,c11,c12,c13,c14,c15,c16].drop 16).take (Tryz.prog.cellsOf 30))=some y15:=t15
 rw[alC,take_one (c:=c16) rfl]at t15
 obtain⟨s0,n0,e0,hs0⟩:=Oo t0 b0
 obtain⟨rfl,rfl⟩:c0=.slice s0.a n0.parts.length s0.cap∧c1=.string n0.aQ:=by simpa[aJ]using e0
 obtain⟨s1,n1,rfl,hs1⟩:=Oq t1 b1
 obtain⟨n2,rfl,hs2⟩:=alK t2
 clear b2
 obtain⟨n3,rfl⟩:=jq t3
 clear b3
 obtain⟨s4,n4,rfl,hs4⟩:=alI t4 b4
 obtain⟨n5,rfl,hs5⟩:=Ae t5 b5
 obtain⟨n6,rfl⟩:=jq t6
 clear b6
 obtain⟨n7,rfl⟩:=jq t7
 clear b7
 obtain⟨n8,rfl⟩:=jq t8
 clear b8
 obtain⟨n9,rfl⟩:=jq t9
 clear b9
 obtain⟨n10,rfl⟩:=jq t10
 clear b10
 obtain⟨n11,rfl⟩:=jq t11
 clear b11
 obtain⟨n12,rfl⟩:=jq t12
 clear b12
 obtain⟨s13,n13,rfl,alQ⟩:=Oq t13 b13
 obtain⟨s14,n14,rfl,alR⟩:=Oq t14 b14
 obtain⟨s15,n15,rfl,alS⟩:=alJ t15 b15
 exact⟨⟨s0,s1,s4,s13,s14,s15⟩,⟨n0,n1,n2,n3,n4,n5,n6,n7,n8,n9,n10,n11,n12,n13,n14,n15⟩,rfl,⟨hs0,hs1,hs4,alQ,alR,alS,hs5,hs2⟩⟩
theorem alT{cs:List Value}(h:DataW.trod enc Tryz.prog w base spare held fuel 34 cs=some x)(hb:Rows.uptoBulk x.1≤1048576):∃p:aO,cs=(bZ p).toList∧p.name.size≤lim:=by
 obtain⟨hl,n,hf⟩:=Ac Tryz.underlying34 h hb
 rw[XA]at hl
 obtain⟨c0,c1,c2,c3,c4,c5,c6,c7,c8,c9,rfl⟩:=alu hl
 obtain⟨y0,t0,b0⟩:=hf 0 _ rfl
 replace t0:DataW.trod enc Tryz.prog w base spare held n 9 (([c0,c1,c2,c3,c4,c5,c6,c7,c8,c9].drop 0).take (Tryz.prog.cellsOf 9))=some y0:=t0
 rw[Ad,take_one (c:=c0) rfl]at t0
 obtain⟨y1,t1,b1⟩:=hf 1 _ rfl
 replace t1:DataW.trod enc Tryz.prog w base spare held n 3 (([c0,c1,c2,c3,c4,c5,c6,c7,c8,c9].drop 1).take (Tryz.prog.cellsOf 3))=some y1:=t1
 rw[jg,take_one (c:=c1) rfl]at t1
 obtain⟨y2,t2,b2⟩:=hf 2 _ rfl
 replace t2:DataW.trod enc Tryz.prog w base spare held n 3 (([c0,c1,c2,c3,c4,c5,c6,c7,c8,c9].drop 2).take (Tryz.prog.cellsOf 3))=some y2:=t2
 rw[jg,take_one (c:=c2) rfl]at t2
 obtain⟨y3,t3,b3⟩:=hf 3 _ rfl
 replace t3:DataW.trod enc Tryz.prog w base spare held n 3 (([c0,c1,c2,c3,c4,c5,c6,c7,c8,c9].drop 3).take (Tryz.prog.cellsOf 3))=some y3:=t3
 rw[jg,take_one (c:=c3) rfl]at t3
 obtain⟨y4,t4,b4⟩:=hf 4 _ rfl
 replace t4:DataW.trod enc Tryz.prog w base spare held n 3 (([c0,c1,c2,c3,c4,c5,c6,c7,c8,c9].drop 4).take (Tryz.prog.cellsOf 3))=some y4:=t4
 rw[jg,take_one (c:=c4) rfl]at t4
 obtain⟨y5,t5,b5⟩:=hf 5 _ rfl
 replace t5:DataW.trod enc Tryz.prog w base spare held n 3 (([c0,c1,c2,c3,c4,c5,c6,c7,c8,c9].drop 5).take (Tryz.prog.cellsOf 3))=some y5:=t5
 rw[jg,take_one (c:=c5) rfl]at t5
 obtain⟨y6,t6,b6⟩:=hf 6 _ rfl
 replace t6:DataW.trod enc Tryz.prog w base spare held n 3 (([c0,c1,c2,c3,c4,c5,c6,c7,c8,c9].drop 6).take (Tryz.prog.cellsOf 3))=some y6:=t6
 rw[jg,take_one (c:=c6) rfl]at t6
 obtain⟨y7,t7,b7⟩:=hf 7 _ rfl
 replace t7:DataW.trod enc Tryz.prog w base spare held n 3 (([c0,c1,c2,c3,c4,c5,c6,c7,c8,c9].drop 7).take (Tryz.prog.cellsOf 3))=some y7:=t7
 rw[jg,take_one (c:=c7) rfl]at t7
 obtain⟨y8,t8,b8⟩:=hf 8 _ rfl
 replace t8:DataW.trod enc Tryz.prog w base spare held n 3 (([c0,c1,c2,c3,c4,c5,c6,c7,c8,c9].drop 8).take (Tryz.prog.cellsOf 3))=some y8:=t8
 rw[jg,take_one (c:=c8) rfl]at t8
 obtain⟨y9,t9,b9⟩:=hf 9 _ rfl
 replace t9:DataW.trod enc Tryz.prog w base spare held n 3 (([c0,c1,c2,c3,c4,c5,c6,c7,c8,c9].drop 9).take (Tryz.prog.cellsOf 3))=some y9:=t9
 rw[jg,take_one (c:=c9) rfl]at t9
 obtain⟨n0,rfl,hs0⟩:=Ae t0 b0
 obtain⟨n1,rfl⟩:=jq t1
 clear b1
 obtain⟨n2,rfl⟩:=jq t2
 clear b2
 obtain⟨n3,rfl⟩:=jq t3
 clear b3
 obtain⟨n4,rfl⟩:=jq t4
 clear b4
 obtain⟨n5,rfl⟩:=jq t5
 clear b5
 obtain⟨n6,rfl⟩:=jq t6
 clear b6
 obtain⟨n7,rfl⟩:=jq t7
 clear b7
 obtain⟨n8,rfl⟩:=jq t8
 clear b8
 obtain⟨n9,rfl⟩:=jq t9
 clear b9
 exact⟨⟨n0,n1,n2,n3,n4,n5,n6,n7,n8,n9⟩,rfl,hs0⟩
end
end Go.Proofs.YtibhckkjciflaaaGreatDoor
namespace Go.Proofs.YtibhckkjciflaaaGreatDoor
open Go.ChangeShapes Go.WideShapes Go.ChangeAt Go.RowKit Go.WW Go.Deep
theorem cut(cs:List Value)(o n:Nat):cs.drop o=(cs.drop o).take n++cs.drop (o+n):=by
 have:=(List.take_append_drop n (cs.drop o)).symm;rwa[List.drop_drop]at this
theorem alU:Tryz.prog.cellsOf 22=1:=by kernel_rfl
theorem alV:Tryz.prog.cellsOf 36=37:=by kernel_rfl
theorem alW(x:aT)(s:Sl)(r:aC):(aH x s r).toList=[.int .i64 x.i]++([.int .i64 x.t]++([.int .i64 x.m]++([.int .i64 x.k]++((aJ s x.n).toList++((ay r x.d).toList++((bZ x.q).toList++([.string x.pn]++([.int .i64 x.f]++([.int .i64 x.a]++[.int .i64 x.b]))))))))):=by
 simp[aH,aj,aJ,ay,bZ]
section
variable {H:Type} {enc:TypeId×Value→H} {w:World} {base:Nat} {spare:Nat→Bool} {held:Bool} {fuel:Nat} {x:DataW H×List MemPlace}
theorem xZ{T:TypeId}{cs:List Value}(ht:Tryz.prog.underlying T=some (.int .i64))(hl:cs.length=1)(h:DataW.trod enc Tryz.prog w base spare held fuel T cs=some x):∃n:Int,cs=[.int .i64 n]:=by
 obtain⟨c,rfl⟩:=Ii hl
 obtain⟨n,hs,_,_⟩:=DataW.trod_int ht h
 exact⟨n,by simpa using hs⟩
theorem alX{cs:List Value}(h:DataW.trod enc Tryz.prog w base spare held fuel 36 cs=some x)(hb:Rows.uptoBulk x.1≤1048576):∃(d:aT) (s:Sl) (r:aC),cs=(aH d s r).toList∧dV w s r d:=by
 obtain⟨hl,n,hf⟩:=Ac Tryz.underlying36 h hb
 rw[alV]at hl
 obtain⟨y0,t0,_⟩:=hf 0 _ rfl
 obtain⟨y1,t1,_⟩:=hf 1 _ rfl
 obtain⟨y2,t2,_⟩:=hf 2 _ rfl
 obtain⟨y3,t3,_⟩:=hf 3 _ rfl
 obtain⟨y4,t4,b4⟩:=hf 4 _ rfl
 obtain⟨y5,t5,b5⟩:=hf 5 _ rfl
 obtain⟨y6,t6,b6⟩:=hf 6 _ rfl
 obtain⟨y7,t7,b7⟩:=hf 7 _ rfl
 obtain⟨y8,t8,_⟩:=hf 8 _ rfl
 obtain⟨y9,t9,_⟩:=hf 9 _ rfl
 obtain⟨Ot,t10,_⟩:=hf 10 _ rfl
 replace t0:DataW.trod enc Tryz.prog w base spare held n 3 ((cs.drop 0).take (Tryz.prog.cellsOf 3))=some y0:=t0
 replace t1:DataW.trod enc Tryz.prog w base spare held n 3 ((cs.drop 1).take (Tryz.prog.cellsOf 3))=some y1:=t1
 replace t2:DataW.trod enc Tryz.prog w base spare held n 3 ((cs.drop 2).take (Tryz.prog.cellsOf 3))=some y2:=t2
 replace t3:DataW.trod enc Tryz.prog w base spare held n 22 ((cs.drop 3).take (Tryz.prog.cellsOf 22))=some y3:=t3
 replace t4:DataW.trod enc Tryz.prog w base spare held n 25 ((cs.drop 4).take (Tryz.prog.cellsOf 25))=some y4:=t4
 replace t5:DataW.trod enc Tryz.prog w base spare held n 32 ((cs.drop 6).take (Tryz.prog.cellsOf 32))=some y5:=t5
 replace t6:DataW.trod enc Tryz.prog w base spare held n 34 ((cs.drop 23).take (Tryz.prog.cellsOf 34))=some y6:=t6
 replace t7:DataW.trod enc Tryz.prog w base spare held n 9 ((cs.drop 33).take (Tryz.prog.cellsOf 9))=some y7:=t7
 replace t8:DataW.trod enc Tryz.prog w base spare held n 3 ((cs.drop 34).take (Tryz.prog.cellsOf 3))=some y8:=t8
 replace t9:DataW.trod enc Tryz.prog w base spare held n 3 ((cs.drop 35).take (Tryz.prog.cellsOf 3))=some y9:=t9
 replace t10:DataW.trod enc Tryz.prog w base spare held n 3 ((cs.drop 36).take (Tryz.prog.cellsOf 3))=some Ot:=t10
 rw[jg]at t0 t1 t2 t8 t9 t10
 rw[alU]at t3
 rw[Ij]at t4
 rw[Xz]at t5
 rw[XA]at t6
 rw[Ad]at t7
 obtain⟨i0,e0⟩:=xZ Tryz.underlying3 (by simp;omega) t0
 obtain⟨i1,e1⟩:=xZ Tryz.underlying3 (by simp;omega) t1
 obtain⟨i2,e2⟩:=xZ Tryz.underlying3 (by simp;omega) t2
 obtain⟨i3,e3⟩:=xZ Tryz.underlying22 (by simp;omega) t3
 obtain⟨s,p,e4,hp⟩:=Oo t4 b4
 obtain⟨r,d,e5,he⟩:=alL t5 b5
 obtain⟨q,e6,hq⟩:=alT t6 b6
 obtain⟨c7,e7⟩:=Ii (cs:=(cs.drop 33).take 1) (by simp;omega)
 rw[e7]at t7
 obtain⟨pn,rfl,hpn⟩:=Ae t7 b7
 obtain⟨i8,e8⟩:=xZ Tryz.underlying3 (by simp;omega) t8
 obtain⟨i9,e9⟩:=xZ Tryz.underlying3 (by simp;omega) t9
 obtain⟨i10,e10⟩:=xZ Tryz.underlying3 (by simp;omega) t10
 refine⟨⟨i0,i1,i2,i3,i8,i9,i10,p,d,q,pn⟩,s,r,?_,hp,he,hq,hpn⟩
 rw[alW]
 have hz:cs=cs.drop 0:=rfl
 rw[hz,cut cs 0 1,cut cs 1 1,cut cs 2 1,cut cs 3 1,cut cs 4 2,cut cs 6 17,cut cs 23 10,cut cs 33 1,cut cs 34 1,cut cs 35 1,cut cs 36 1,e0,e1,e2,e3,e4,e5,e6,e7,e8,e9,e10]
 have:cs.drop (36+1)=[]:=List.drop_eq_nil_of_le (by omega)
 rw[this,List.append_nil]
end
end Go.Proofs.YtibhckkjciflaaaGreatDoor
