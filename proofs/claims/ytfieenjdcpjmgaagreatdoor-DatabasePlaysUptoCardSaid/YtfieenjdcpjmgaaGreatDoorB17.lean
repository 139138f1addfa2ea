/- A part of the proof. -/
import Derived.Test.YtfieenjdcpjmgaaGreatDoorB16
import Derived.Test.YtfieenjdcpjmgaaGreatDoorB11
import Derived.Test.YtfieenjdcpjmgaaGreatDoorB10
import Derived.Test.YtfieenjdcpjmgaaGreatDoorB04
import Derived.Test.YtfieenjdcpjmgaaGreatDoorB12
set_option maxRecDepth 100000
set_option maxHeartbeats 8000000
namespace Go.Proofs.YtfieenjdcpjmgaaGreatDoor
open Go.RowKit Go.WW
attribute [local go_sem] Oper.semAt_some
attribute [local irreducible] aH
def Vt(b n e p:Nat)(re:ByteArray)(s:Int)(NL:List (ByteArray×ByteArray))(N1:List (ByteArray×Value))(E1:List EE)(P:List ai)(d:Entry)(w:World)(q:Ending)(w':World):Prop:=
 (q=.returned (.int .i64 11)∧GX NL d∧Below w.heap.size w w')∨
 (q=.returned (.int .i64 0)∧ug NL (textOf d.name) (d.name::d.aliases)∧But (aZ b n e p) w w'∧∃r',mg (fun k=>k<w.heap.size) w' (r',d)∧bU w' b n e p re (s+1) (rH N1 (textOf d.name) (d.name::d.aliases)) (E1++[(r',d)]) P)
theorem pq{w:World}{b n e p:Nat}{re:ByteArray}{s:Int}{N:List (ByteArray×Value)}{E:List EE}{P:List ai}(h:bU w b n e p re s N E P):∀k,w.heap.size≤k→¬aZ b n e p k:=fun k hk hd=>by
 have q1:=(Array.getElem?_eq_some_iff.1 h.box).1
 have q2:=h.nm.lt
 have q3:=h.em.lt
 have q4:=h.pm.lt
 rcases hd with rfl|rfl|rfl|rfl<;>omega
theorem AY{w W V:World}{b n e p:Nat}{re:ByteArray}{s:Int}{N:List (ByteArray×Value)}{E:List EE}{P:List ai}{r:aN}{d:Entry}(hb:Below W.heap.size W V)(ht:W.heap[w.heap.size]?=some (.cells #[.pointer (some ⟨b,0,none⟩)] 25))(jm:W.heap[w.heap.size+1]?=some (.cells (ae r d) 47))(hr4:W.heap[w.heap.size+1+1]?=some (.cells #[.int .i64 0] 26))(h':bU W b n e p re s N E P) :
  V.heap[w.heap.size]?=some (.cells #[.pointer (some ⟨b,0,none⟩)] 25)∧V.heap[w.heap.size+1]?=some (.cells (ae r d) 47)∧V.heap[w.heap.size+1+1]?=some (.cells #[.int .i64 0] 26)∧bU V b n e p re s N E P∧w.heap.size<V.heap.size∧w.heap.size+1<V.heap.size∧w.heap.size+1+1<V.heap.size∧(V.cell? ⟨b,0,none⟩=some (.string re)∧V.cell? ⟨b,1,none⟩=some (.int .i64 s)∧V.cell? ⟨b,2,none⟩=some (.map (some n))∧V.cell? ⟨b,3,none⟩=some (.map (some e))∧V.cell? ⟨b,4,none⟩=some (.map (some p))∧V.frozen? ⟨b,1,none⟩=false∧b<V.heap.size)∧row? V (w.heap.size+1) 0 17=some (ae r d)∧row? V (w.heap.size+1) 0 2=some (ah r.parts d.name)∧(∀o,V.cell? ⟨w.heap.size+1,o,none⟩=(ae r d)[o]?)∧V.cell? ⟨w.heap.size,0,none⟩=some (.pointer (some ⟨b,0,none⟩))∧V.cell? ⟨w.heap.size+1+1,0,none⟩=some (.int .i64 0)∧V.frozen? ⟨w.heap.size+1+1,0,none⟩=false:=
 have t:=aJ hb ht
 have e:=aJ hb jm
 have r:=aJ hb hr4
 have h:=h'.later hb
 have q:row? V (w.heap.size+1) 0 17=some _:=by rw[bQ e];exact df (by simp[go_sem])
 ⟨t,e,r,h,(aB t).2.2.2,(aB e).2.2.2,(aB r).2.2.2,dO h.box,q,uV q,(aB e).1,(aB t).1 0,(aB r).1 0,(aB r).2.1 0⟩
theorem aiv(b n e p:Nat)(re:ByteArray)(s:Int)(NL:List (ByteArray×ByteArray))(N1:List (ByteArray×Value))(E E1:List EE)(P:List ai)(r:aN)(d:Entry)(w:World)(h:bU w b n e p re s (dU NL) E P)(hre:¬re=⟨#[]⟩)(he:bK w r d)(hE:∀x∈E,mg (aZ b n e p) w x∧AV x.2)(hR:tY (dU NL) E (textOf d.name) N1 E1)(hok:AV d)(hv:bW d=true)(hrl:d.name.aG=re)(yN:d.aO=⟨#[]⟩∨P.any (fun x=>decide (x.name=d.aO))=true)(hkeys:∀k o o',(k,o)∈NL→(k,o')∈NL→o=o')(hEl:E.length<4096)(hs0:0≤s)(hs1:s<1000000) :
  Calls Tryz.prog 23 #[.pointer (some ⟨b,0,none⟩),.agg (ae r d)] w (Vt b n e p re s NL N1 E1 P d w):=by
 have Vs:=str_eq _ _ hrl
 obtain⟨q0,Vu,hlp,Vw⟩:=ais P d.aO
 obtain⟨r0,d0,ok,hle⟩:=air E (textOf d.name)
 have Mc:=Lib.hid hle
 have HLP:=Lib.hid hlp
 have mi:=Lib.hid Vw
 clear hle hlp Vw
 obtain⟨hB,ht,jm,hr4,hsz⟩:=GY w b r d
 refine(callsIn_wide (n:=0)).1 ?_
 refine callsIn_of_wp_marks Tryz.func23 rfl trivial ?_ rfl
 simp only[Tryz.ntmps23,List.size_toArray,List.length_cons,List.length_nil,Nat.reduceAdd,Nat.reduceSub,Array.replicate_succ,Array.replicate_zero,List.push_toArray,List.append_toArray,List.nil_append,List.cons_append]
 gi_wp2
 have he':=he.later hB
 have h':=h.later hB
 unfold uh at hB ht jm hr4 hsz he' h'
 generalize ((w.alloc (.cells #[.pointer (some ⟨b,0,none⟩)] 25)).alloc (.cells (ae r d) 47)).alloc (.cells #[.int .i64 0] 26)=W at *
 clear hsz
 obtain⟨ap1,ap2,ap3,h_W,l0,l1,l2,⟨c0,c1',c2,c3,c4,f1,hl⟩,mV,hrn,kQ,hct,hc4,hf4⟩:=AY (Below.refl _ W) ht jm hr4 h'
 refine⟨trivial,rfl,(callsIn_wide.2 (jo _ _ _ c0 hre)).mono ?_⟩
 rintro x w' ⟨rfl,rfl⟩
 dsimp only
 gi_wp2
 refine(wpIn_wide (n:=0)).2 ?_
 refine wW (Below.refl _ W) (by kernel_rfl) (by kernel_rfl) ?_
 intro w1 hb1
 iterate 1 (refine aP (by kernel_rfl) (by kernel_rfl) (fun K hK=>?_);go_big_quiet_op;refine hK _ ?_;clear hK K)
 refine aU (by rfl) (by rfl) (fun K hK=>?_)
 go_wp2_with fail
 refine(CW r d w1 (he'.later hb1)).mono ?_
 rintro q w2 ⟨rfl,hb2⟩
 rw[hv]
 dsimp only
 have hb2':=ag hb1 hb2
 refine hK _ _ (aA hb2') ?_
 clear hK K
 iterate 12 (refine aP (by kernel_rfl) (by kernel_rfl) (fun K hK=>?_);go_big_quiet_op;refine hK _ ?_;clear hK K)
 refine bV ?_
 clear c0 c1' c2 c3 c4 f1 hl mV hrn kQ hct hc4 hf4 l0 l1 l2
 obtain⟨ap5,ap6,ap7,Vx,l0,l1,l2,⟨c0,c1',c2,c3,c4,f1,hl⟩,mV,hrn,kQ,hct,hc4,hf4⟩:=AY hb2' ht jm hr4 h'
 have hlk:∀x:Later w2,(Instr.lookup 86 (.map (some p)) (.string d.aO) true).run Tryz.prog x.w=.ok (.tuple #[.agg (aC q0),.bool Vu]) x.w:=fun x=>HLP.out _ _ (Vx.pm.at (x.b.block p Vx.pm.lt))
 gi_wp2
 refine(wpIn_wide (n:=0)).2 ?_
 refine wW (Below.refl _ w2) (by kernel_rfl) (by kernel_rfl) ?_
 intro wq hbq
 iterate 11 (refine aP (by kernel_rfl) (by kernel_rfl) (fun K hK=>?_);go_big_quiet_op;refine hK _ ?_;clear hK K)
 refine aU (by rfl) (by rfl) (fun K hK=>?_)
 go_wp2_with fail
 refine hK _ _ (aA (aj hbq _)) ?_
 clear hK K
 refine aU (by rfl) (by rfl) (fun K hK=>?_)
 go_wp2_with fail
 refine hK _ _ (aA (aj hbq (.cells (aC q0) 50))) ?_
 clear hK K
 iterate 1 (refine aP (by kernel_rfl) (by kernel_rfl) (fun K hK=>?_);go_big_quiet_op;refine hK _ ?_;clear hK K)
 refine bV ?_
 have hb4:=ag hb2' (aj hbq (.cells (aC q0) 50))
 clear hbq hlk
 generalize (wq.alloc (.cells (aC q0) 50))=V at *
 clear c0 c1' c2 c3 c4 f1 hl mV hrn kQ hct hc4 hf4 l0 l1 l2
 obtain⟨ap8,ap9,aqa,h_V,l0,l1,l2,⟨c0,c1',c2,c3,c4,f1,hl⟩,mV,hrn,kQ,hct,hc4,hf4⟩:=AY hb4 ht jm hr4 h'
 cases Vu
 case' false=>
  have hpe:d.aO=⟨#[]⟩:=by
   rcases yN with h|h
   ·exact h
   ·rw[←mi.out]at h;cases h
  have hpc:V.cell? ⟨w.heap.size+1,6,none⟩=some (.string ⟨#[]⟩):=by rw[kQ 6,FB,hpe]
  clear kQ
  have kQ:True:=trivial
  gi_wp2
 case' true=>gi_wp2
 all_goals
  refine⟨trivial,rfl,(callsIn_wide.2 (LG _ _ _ (he'.later hb4))).mono ?_⟩
  rintro q w3 ⟨bN,sN,X,rfl,hb3,hbN,Dy,hX,hd⟩
  have Md:=ag hb4 hb3
  have hB3:=ag hB Md
  have aqc:=hb3.size
  have GZ:w.heap.size+1+1<V.heap.size:=l2
  dsimp only
  gi_wp2
  refine(wpIn_wide (n:=0)).2 ?_
  refine GL (gf:=126) (lb:=#[.pointer (some ⟨bN,0,none⟩)]) (by simp[go_sem]) (enters_of Tryz.func126 (by kernel_rfl) rfl) (S:=one (w.heap.size+1+1)) ?_ (xs:=X) (V:=VN) ?_ (LM bN sN X (one (w.heap.size+1+1)) w3 Dy ?_ ?_)
   (fun c1 k Wc=>But (fun _=>False) w3 Wc∧ug NL (textOf d.name) ((X.map (·.2)).take k)∧w3.heap.size<c1) (fun c c1 _ Wc=>c=.ret∧GX NL d∧But (one (w.heap.size+1+1)) w3 Wc∧Wc.heap[w.heap.size+1+1]?=some (.cells #[.int .i64 11] 26)∧w3.heap.size<c1) ?_ ?_ ?_ ?_ ?_ ?_
  ·rintro k (rfl:k=_);omega
  ·rintro c1 xx v W0 Wc ⟨s',rfl,_⟩;rfl
  ·rintro k (rfl:k=_);omega
  ·intro y hy
   exact hd y fun k hk=>hy.block k hk.2 fun hk'=>by
    rcases hk' with(e:k=_)|e
    ·have:=hk.1;omega
    ·have:=hk.2;omega
  ·intro c1 Wc h1 h2 hb
   exact⟨But.of_below hb,by simp[ug],h1⟩
  ·rintro c1 k Wc yJ ⟨h1,h2,h4⟩ hb
   exact⟨h1.past hb (fun j hj=>hj.1),h2,h4⟩
  ·rintro c c1 k Wc yJ ⟨h1,h2,h3,h4,h5⟩ hb
   exact⟨h1,h2,h3.past hb (fun j hj=>hj.1),(hb.block _ (Array.getElem?_eq_some_iff.1 h4).1 (fun hj=>by have:=hj.1;omega)).trans h4,h5⟩
  ·rintro c1 k xx v W0 Wc hxx ⟨s',rfl,hp⟩ ⟨rF,hfr,hc0⟩ hbs hc1 xm
   have hsW:=hbs.size
   have hc2:c1≤Wc.heap.size:=Nat.le_trans xm hsW
   have hbu:But (fun _=>False) w3 Wc:=rF.past hbs (fun j hj=>hj.1)
   clear rF hbs
   obtain⟨s0,q⟩:=xx
   have hqm:(X.map (·.2))[k]?=some q:=by rw[List.getElem?_map,hxx];rfl
   have Vy:q∈d.name::d.aliases:=by rw[←hX];exact List.mem_of_getElem? hqm
   have AU:bG q=true:=hok q Vy
   have HP:=Lib.hid hp
   have Vz:=Lib.hid hfr
   clear hp hfr
   dsimp only
   gi_wp2
   have hal:Below Wc.heap.size Wc (Wc.alloc (.cells (ah s' q) 40)):=(Below.refl _ _).alloc (Nat.le_refl _) _
   refine⟨hal,fun U hU=>?_⟩
   have qj:U.heap[Wc.heap.size]?=some (.cells (ah s' q) 40):=(hU.block _ (by simp) (bu (by omega))).trans (World.alloc_heap_new _ _)
   have LX:Wc.heap.size<U.heap.size:=(Array.getElem?_eq_some_iff.1 qj).1
   have mf:But (fun _=>False) w3 U:=(hbu.trans (But.of_below hal)).past hU (fun j hj=>by have:j=_:=hj;omega)
   have VA:Below w3.heap.size w3 U:=mf.below (Nat.le_refl _) (fun _ hf=>hf.elim)
   have vC:bn U s' q:=HP.out U fun j hj=>(hU.block j (by have:=hj.2;simp;omega) (bu (by have:=hj.1;omega))).trans (hal.block j hj.2)
   have VB:=ag Md VA
   have iJ:row? U Wc.heap.size 0 2=some (ah s' q):=by rw[bQ qj];exact df (by simp[go_sem])
   clear hal hU hbu HP
   clear c0 c1' c2 c3 c4 f1 hl mV hrn kQ hct hc4 hf4 l0 l1 l2
   obtain⟨aqd,VC,aix,Dz,l0,l1,l2,⟨c0,c1',c2,c3,c4,f1,hl⟩,mV,hrn,kQ,hct,hc4,hf4⟩:=AY VB ht jm hr4 h'
   have L8:bn U r.parts d.name:=(he'.later VB).name
   have aqe:=Dz.nm
   by_cases hin:∃o,(textOf q,o)∈NL
   ·obtain⟨o,ho⟩:=hin
    have hlk:∀x:qf (fun _=>False) U,(Instr.lookup 84 (.map (some n)) (.string (textOf q)) true).run Tryz.prog x.w=.ok (.tuple #[.string o,.bool true]) x.w:=fun x=>aip (Dz.nm.at (x.b.block n Dz.nm.lt (fun hf=>hf))) ho
    gi_wp2
    refine TI.GK (fun _=>False) (But.refl _ U) (by kernel_rfl) (by kernel_rfl) (by kernel_rfl) ?_
    repeat (first|(refine TI.ax (by rfl) ?_)|(refine TI.aI (by rfl) (by rfl) (fun K hK=>?_);go_big_quiet_op;refine hK _ ?_;clear hK K))
    refine TI.aK (by rfl) (by rfl) (by rfl) (fun K hK=>?_)
    go_wp2_with fail
    refine(ru _ _ U.drew (vC.later (Below.refl _ _).drew) AU).mono ?_
    rintro z U2 ⟨rfl,hbk⟩
    dsimp only
    have hbb:Below U.heap.size U U2:=(Below.refl _ U).drew.trans hbk
    refine hK _ _ (dw (But.of_below hbb)) ?_
    clear hK K
    repeat (first|(refine TI.ax (by rfl) ?_)|(refine TI.aI (by rfl) (by rfl) (fun K hK=>?_);go_big_quiet_op;refine hK _ ?_;clear hK K))
    refine TI.bV ?_
    have DC:=aJ hbb VC
    have aiy:row? U2 (w.heap.size+1) 0 2=some (ah r.parts d.name):=uV (d:=d) (by rw[bQ DC];exact df (by simp[go_sem]))
    have l12:w.heap.size+1<U2.heap.size:=(Array.getElem?_eq_some_iff.1 DC).1
    gi_wp2
    refine⟨trivial,rfl,CallsIn.mono (F:=Fence.wide.inRound (w3.heap.size+1)) (callsIn_wide.2 (ru _ _ U2 (L8.later hbb) (hok _ (by simp)))) ?_⟩
    rintro z U3 ⟨rfl,Ha⟩
    dsimp only
    have DD:=ag hbb Ha
    have hr3:=aJ DD aix
    have aqf:U3.cell? ⟨w.heap.size+1+1,0,none⟩=some (.int .i64 0):=(aB hr3).1 0
    have aqg:U3.frozen? ⟨w.heap.size+1+1,0,none⟩=false:=(aB hr3).2.1 0
    have l23:w.heap.size+1+1<U3.heap.size:=(Array.getElem?_eq_some_iff.1 hr3).1
    by_cases hoe:o=textOf d.name
    ·have aiz:=str_eq _ _ hoe
     gi_wp2
     refine⟨But.of_below DD,mf.trans (But.of_below DD),?_,by omega⟩
     rw[←hX,take_snoc hqm]
     exact Vl Vz.out (fun o' ho'=>by rw[hkeys _ _ _ ho' ho];exact hoe)
    ·have aiz:=lu _ _ hoe
     gi_wp2
     have hset:=dI (o:=0) (.int .i64 11) hr3
     have hbx:But (one (w.heap.size+1+1)) U3 (U3.setCell ⟨w.heap.size+1+1,0,none⟩ (.int .i64 11)):=⟨rfl,rfl,rfl,by simp[World.setCell],fun k _ hn'=>Below.heap_setCell _ _ _ _ hn'⟩
     exact⟨((But.of_below DD).trans hbx).mono fun _ h=>.inl h,rfl,⟨q,Vy,o,ho,hoe⟩,((But.of_below VA).trans (But.of_below DD)).trans hbx,hset,by omega⟩
   ·have hno:∀o,(textOf q,o)∉NL:=fun o ho=>hin ⟨o,ho⟩
    have hlk:∀x:qf (fun _=>False) U,(Instr.lookup 84 (.map (some n)) (.string (textOf q)) true).run Tryz.prog x.w=.ok (.tuple #[.string ⟨#[]⟩,.bool false]) x.w:=fun x=>aiq (Dz.nm.at (x.b.block n Dz.nm.lt (fun hf=>hf))) hno
    gi_wp2
    refine TI.GK (fun _=>False) (But.refl _ U) (by kernel_rfl) (by kernel_rfl) (by kernel_rfl) ?_
    repeat (first|(refine TI.ax (by rfl) ?_)|(refine TI.aI (by rfl) (by rfl) (fun K hK=>?_);go_big_quiet_op;refine hK _ ?_;clear hK K))
    refine TI.aK (by rfl) (by rfl) (by rfl) (fun K hK=>?_)
    go_wp2_with fail
    refine(ru _ _ U.drew (vC.later (Below.refl _ _).drew) AU).mono ?_
    rintro z U2 ⟨rfl,hbk⟩
    dsimp only
    have hbb:Below U.heap.size U U2:=(Below.refl _ U).drew.trans hbk
    refine hK _ _ (dw (But.of_below hbb)) ?_
    clear hK K
    repeat (first|(refine TI.ax (by rfl) ?_)|(refine TI.aI (by rfl) (by rfl) (fun K hK=>?_);go_big_quiet_op;refine hK _ ?_;clear hK K))
    refine TI.bV ?_
    have DC:=aJ hbb VC
    have aiy:row? U2 (w.heap.size+1) 0 2=some (ah r.parts d.name):=uV (d:=d) (by rw[bQ DC];exact df (by simp[go_sem]))
    have l12:w.heap.size+1<U2.heap.size:=(Array.getElem?_eq_some_iff.1 DC).1
    gi_wp2
    refine⟨trivial,?_⟩
    gi_wp2
    refine⟨But.of_below hbb,mf.trans (But.of_below hbb),?_,by omega⟩
    rw[←hX,take_snoc hqm]
    exact Vl Vz.out (fun o' ho'=>absurd ho' (hno o'))
  ·rintro c1 Wc ⟨hbu,hfree,hc0⟩ hD
   rw[List.take_of_length_le (by simp),hX]at hfree
   have hbc:Below w3.heap.size w3 Wc:=hbu.below (Nat.le_refl _) (fun _ hf=>hf.elim)
   have He:=ag Md hbc
   clear c0 c1' c2 c3 c4 f1 hl mV hrn kQ hct hc4 hf4 l0 l1 l2
   obtain⟨aqi,aqj,aqk,VD,l0,l1,l2,⟨c0,c1',c2,c3,c4,f1,hl⟩,mV,hrn,kQ,hct,hc4,hf4⟩:=AY He ht jm hr4 h'
   have hlk:∀x:Later Wc,(Instr.lookup 85 (.map (some e)) (.string (textOf d.name)) true).run Tryz.prog x.w=.ok (.tuple #[.agg (ae r0 d0),.bool ok]) x.w:=fun x=>Mc.out _ _ (VD.em.at (x.b.block e VD.em.lt))
   have VF:bn Wc r.parts d.name:=(he'.later He).name
   gi_wp2
   refine(wpIn_wide (n:=0)).2 ?_
   refine vF 12 7 [0,1,2,3,4,5,6,12,7,8,9,10,11,13,14] (Below.refl _ Wc) (by kernel_rfl) (by kernel_rfl) (by rfl) ?_ ?_
   intro v1 hv1
   iterate 7 (refine aP (by kernel_rfl) (by kernel_rfl) (fun K hK=>?_);go_big_quiet_op;refine hK _ ?_;clear hK K)
   refine aU (by rfl) (by rfl) (fun K hK=>?_)
   go_wp2_with fail
   refine(ru _ _ v1 (VF.later hv1) (hok _ (by simp))).mono ?_
   rintro z v2 ⟨rfl,hv2⟩
   dsimp only
   have aV:=ag hv1 hv2
   refine hK _ _ (aA aV) ?_
   clear hK K
   iterate 4 (refine aP (by kernel_rfl) (by kernel_rfl) (fun K hK=>?_);go_big_quiet_op;refine hK _ ?_;clear hK K)
   refine aU (by rfl) (by rfl) (fun K hK=>?_)
   go_wp2_with fail
   refine hK _ _ (aA (aj aV _)) ?_
   clear hK K
   refine aU (by rfl) (by rfl) (fun K hK=>?_)
   go_wp2_with fail
   refine hK _ _ (aA (aj aV (.cells (ae r0 d0) 47))) ?_
   clear hK K
   iterate 1 (refine aP (by kernel_rfl) (by kernel_rfl) (fun K hK=>?_);go_big_quiet_op;refine hK _ ?_;clear hK K)
   refine bV ?_
   have cO:=aj aV (.cells (ae r0 d0) 47)
   clear hlk hv1 hv2 aV
   generalize (v2.alloc (.cells (ae r0 d0) 47))=V5 at *
   have Hf:=ag He cO
   have mW:=ag hB Hf
   clear c0 c1' c2 c3 c4 f1 hl mV hrn kQ hct hc4 hf4 l0 l1 l2
   rotate_left
   intro v1 hv1
   simp only[pick,List.getElem?_cons_zero,List.getElem?_cons_succ]
   iterate 7 (refine aP (by kernel_rfl) (by kernel_rfl) (fun K hK=>?_);go_big_quiet_op;refine hK _ ?_;clear hK K)
   refine aU (by rfl) (by rfl) (fun K hK=>?_)
   go_wp2_with fail
   refine hK _ _ (aA (aj hv1 _)) ?_
   clear hK K
   rw[←nN]
   have hz1:=World.alloc_heap_new v1 (.cells (ae aW aQ) 47)
   have eP:=aj hv1 (.cells (ae aW aQ) 47)
   generalize v1.alloc (.cells (ae aW aQ) 47)=Z at *
   refine aU (by rfl) (by rfl) (fun K hK=>?_)
   go_wp2_with fail
   refine(ru _ _ _ (VF.later eP) (hok _ (by simp))).mono ?_
   rintro z v2 ⟨rfl,hv2⟩
   dsimp only
   have aV:=ag eP hv2
   refine hK _ _ (aA aV) ?_
   clear hK K
   have hz2:=aJ hv2 hz1
   have hcp:aS v2 v1.heap.size 0 17=true:=lY hz2 (by simp[go_sem])
   have cO:=Go.WW.Below.putRow (o:=0) (cs:=ae r0 d0) aV hv1.size
   iterate 4 (refine aP (by kernel_rfl) (by kernel_rfl) (fun K hK=>?_);go_big_quiet_op;refine hK _ ?_;clear hK K)
   refine aU (by rfl) (by rfl) (fun K hK=>?_)
   go_wp2_with fail
   refine hK _ _ (aA cO) ?_
   clear hK K
   iterate 1 (refine aP (by kernel_rfl) (by kernel_rfl) (fun K hK=>?_);go_big_quiet_op;refine hK _ ?_;clear hK K)
   refine bV ?_
   clear hlk hv2 aV hz1 hz2 hcp eP
   generalize (putRow v2 v1.heap.size 0 (ae r0 d0))=V5 at *
   have Hf:=ag He cO
   have mW:=ag hB Hf
   clear c0 c1' c2 c3 c4 f1 hl mV hrn kQ hct hc4 hf4 l0 l1 l2
   all_goals
    obtain⟨aiA,aql,aiB,aiC,l0,l1,l2,⟨c0,c1',c2,c3,c4,f1,hl⟩,mV,hrn,kQ,hct,hc4,hf4⟩:=AY Hf ht jm hr4 h'
    have hD5:V5.heap[w3.heap.size]?=some (.deferred (some [])):=aJ cO hD
    have hln:=yE (P:=Tryz.prog) (ty:=3) (nJ:=#[85]) rfl Tryz.underlying85 aiC.em
    rw[List.length_map]at hln
    have aqm:¬(4096:Int)≤(E.length:Int):=by omega
    have n0:=pq h w.heap.size (Nat.le_refl _)
    have n1:=pq h (w.heap.size+1) (by omega)
    have n2:=pq h (w.heap.size+1+1) (by omega)
    have n3:=pq h w3.heap.size (by have:=hB3.size;omega)
    cases ok
    all_goals
     gi_wp2
     refine(wpIn_wide (n:=0)).2 ?_
     refine oZ (aZ b n e p) (But.refl _ V5) (by kernel_rfl) (by kernel_rfl) ?_
     iterate 4 (refine aP (by kernel_rfl) (by kernel_rfl) (fun K hK=>?_);go_big_quiet_op;refine hK _ ?_;clear hK K)
     refine aU (by rfl) (by rfl) (fun K hK=>?_)
     go_wp2_with fail
     refine(ahk r d V5.drew ((he.later mW).later (Below.refl _ _).drew)).mono ?_
     rintro q V6 ⟨r',rfl,hb6,hd6⟩
     dsimp only
     have lJ:Below V5.heap.size V5 V6:=(Below.refl _ V5).drew.trans hb6
     refine hK _ _ (dw (But.of_below lJ)) ?_
     clear hK K
     refine aU (by rfl) (by rfl) (fun K hK=>?_)
     go_wp2_with fail
     have mX:=ag mW lJ
     have hkv:∀y,But (fun k=>k<V5.heap.size) V6 y→bK y r' d:=fun y hy=>hd6 y fun k hk=>hy.block k hk.2 (fun hk'=>by have h1:V5.drew.heap.size≤k:=hk.1;have h2:V5.drew.heap.size=V5.heap.size:=rfl;omega)
     have hdv:∀k,aZ b n e p k→k<V5.heap.size:=fun k hk=>Nat.lt_of_not_le fun hge=>pq h k (Nat.le_trans mW.size hge) hk
     have hke:mg (aZ b n e p) V6 (r',d):=fun y hy=>hkv y (hy.mono hdv)
     refine(aik b n e p re s (dU NL) N1 E E1 P r' d V6 (h.later mX) (fun x hx=>⟨(hE x hx).1.on (But.of_below mX),(hE x hx).2⟩) hR hke hok).mono ?_
     rintro q V7 ⟨rfl,hb7,h7⟩
     dsimp only
     have ku:But (aZ b n e p) V5 V7:=(But.of_below lJ).trans hb7
     refine hK _ _ (dw ku) ?_
     clear hK K
     refine bV ?_
     have aiD:But (fun k=>k<V5.heap.size) V6 V7:=hb7.mono hdv
     have aqn:w.heap.size+1+1<V5.heap.size:=l2
     have aqo:w3.heap.size<V5.heap.size:=(Array.getElem?_eq_some_iff.1 hD5).1
     have Me:=(ku.block _ l0 n0).trans aiA
     have yO:=(ku.block _ l2 n2).trans aiB
     have hD7:=(ku.block _ (Array.getElem?_eq_some_iff.1 hD5).1 n3).trans hD5
     have kR:But (aZ b n e p) w V7:=(But.of_below mW).trans ku
     clear c0 c1' c2 c3 c4 f1 hl mV hrn kQ hct hc4 hf4 l0 l1 l2 hln
     obtain⟨c0,c1,c2,c3,c4,f1,hl⟩:=dO h7.box
     have l0:w.heap.size<V7.heap.size:=(Array.getElem?_eq_some_iff.1 Me).1
     have hct:V7.cell? ⟨w.heap.size,0,none⟩=some (.pointer (some ⟨b,0,none⟩)):=(aB Me).1 0
     gi_wp2
     refine⟨trivial,rfl,(callsIn_wide.2 (wX b s V7 c1 f1 hs0 hs1)).mono ?_⟩
     rintro q w' ⟨rfl,rfl⟩
     dsimp only
     have hbw:b<w.heap.size:=(Array.getElem?_eq_some_iff.1 h.box).1
     have lL:=dI (o:=1) (.int .i64 (s+1)) h7.box
     rw[uY]at lL
     have hoth:∀k,k≠b→(V7.setCell ⟨b,1,none⟩ (.int .i64 (s+1))).heap[k]?=V7.heap[k]?:=fun k hk=>Below.heap_setCell _ _ _ _ hk
     have yP:(V7.setCell ⟨b,1,none⟩ (.int .i64 (s+1))).heap.size=V7.heap.size:=by simp[World.setCell]
     have ui:=(hoth _ (by omega)).trans yO
     have hD8:=(hoth w3.heap.size (by have:=hB3.size;omega)).trans hD7
     have hc8:(V7.setCell ⟨b,1,none⟩ (.int .i64 (s+1))).cell? ⟨w.heap.size+1+1,0,none⟩=some (.int .i64 0):=(aB ui).1 0
     have Hg:(V7.setCell ⟨b,1,none⟩ (.int .i64 (s+1))).frozen? ⟨w.heap.size+1+1,0,none⟩=false:=(aB ui).2.1 0
     have l8:w.heap.size+1+1<(V7.setCell ⟨b,1,none⟩ (.int .i64 (s+1))).heap.size:=(Array.getElem?_eq_some_iff.1 ui).1
     have rJ:But (aZ b n e p) w (V7.setCell ⟨b,1,none⟩ (.int .i64 (s+1))):=⟨kR.os,kR.tape,kR.output,by rw[yP];exact kR.size,fun k hk hn'=>(hoth k (fun e'=>hn' (.inl e'))).trans (kR.block k hk hn')⟩
     have hnb:n≠b:=fun e'=>fM h7.box h7.nm e'.symm
     have heb:e≠b:=fun e'=>fM h7.box h7.em e'.symm
     have hpb:p≠b:=fun e'=>fM h7.box h7.pm e'.symm
     have h8:bU (V7.setCell ⟨b,1,none⟩ (.int .i64 (s+1))) b n e p re (s+1) (rH N1 (textOf d.name) (d.name::d.aliases)) (E1++[(r',d)]) P:=⟨lL,h7.nm.at (hoth n hnb),h7.em.at (hoth e heb),h7.pm.at (hoth p hpb),h.ne⟩
     have rM:But (fun k=>k<V5.heap.size) V6 (V7.setCell ⟨b,1,none⟩ (.int .i64 (s+1))):=aiD.trans ⟨rfl,rfl,rfl,by rw[yP];exact Nat.le_refl _,fun k _ hn'=>hoth k (fun e'=>hn' (hdv k (.inl e')))⟩
     clear lL hoth yP c0 c1 c2 c3 c4 f1 hl hct l0 yO hD7 Me
     generalize V7.setCell ⟨b,1,none⟩ (.int .i64 (s+1))=V8 at *
     gi_wp2
     have hw3:=hB3.size
     have aiF:=dI (o:=0) (.int .i64 0) ui
     have MB:(V8.setCell ⟨w.heap.size+1+1,0,none⟩ (.int .i64 0)).heap[w3.heap.size]?=some (.deferred (some [])):=(Below.heap_setCell _ _ _ _ (show w3.heap.size≠w.heap.size+1+1 by omega)).trans hD8
     refine⟨by simp,.inl ⟨_,_,rfl,run_takeDeferred MB,?_⟩⟩
     have VG:∀k,k≠w.heap.size+1+1→k≠w3.heap.size→((V8.setCell ⟨w.heap.size+1+1,0,none⟩ (.int .i64 0)).putObj w3.heap.size (.deferred none)).heap[k]?=V8.heap[k]?:=fun k h1 h2=>(World.putObj_heap_other h2).trans (Below.heap_setCell _ _ _ _ h1)
     have aiG:V8.heap.size≤((V8.setCell ⟨w.heap.size+1+1,0,none⟩ (.int .i64 0)).putObj w3.heap.size (.deferred none)).heap.size:=by simp[World.setCell,World.putObj]
     have o9:((V8.setCell ⟨w.heap.size+1+1,0,none⟩ (.int .i64 0)).putObj w3.heap.size (.deferred none)).cell? ⟨w.heap.size+1+1,0,none⟩=some (.int .i64 0):=(aB ((World.putObj_heap_other (show w.heap.size+1+1≠w3.heap.size by omega)).trans aiF)).1 0
     have dW:But (fun k=>k=w.heap.size+1+1∨k=w3.heap.size) V8 ((V8.setCell ⟨w.heap.size+1+1,0,none⟩ (.int .i64 0)).putObj w3.heap.size (.deferred none)):=⟨rfl,rfl,rfl,aiG,fun k _ hn'=>VG k (fun e'=>hn' (.inl e')) (fun e'=>hn' (.inr e'))⟩
     refine⟨.int .i64 0,by simp[results,Tryz.f23,go_sem,o9],.inr ⟨rfl,hfree,rJ.past dW (fun k hk=>by rcases hk with rfl|rfl<;>omega),r',fun y hy=>hkv y ((rM.trans (dW.mono fun k hk=>by rcases hk with rfl|rfl<;>assumption)).trans (hy.mono fun k hk=>Nat.lt_of_lt_of_le hk mW.size)),?_⟩⟩
     have VH:∀k,aZ b n e p k→k<w.heap.size:=fun k hk=>Nat.lt_of_not_le fun hge=>pq h k hge hk
     have hk9:∀k,aZ b n e p k→((V8.setCell ⟨w.heap.size+1+1,0,none⟩ (.int .i64 0)).putObj w3.heap.size (.deferred none)).heap[k]?=V8.heap[k]?:=fun k hk=>VG k (by have:=VH k hk;omega) (by have:=VH k hk;omega)
     exact⟨(hk9 b (.inl rfl)).trans h8.box,h8.nm.at (hk9 n (.inr (.inl rfl))),h8.em.at (hk9 e (.inr (.inr (.inl rfl)))),h8.pm.at (hk9 p (.inr (.inr (.inr rfl)))),h.ne⟩
  ·rintro c c1 k Wc ⟨rfl,hbz,hbu,h11,hc0⟩ hD
   refine(wpIn_wide (n:=0)).1 ?_
   gi_wp2
   refine⟨by simp,.inl ⟨_,_,rfl,run_takeDeferred hD,?_⟩⟩
   have o9:(Wc.putObj w3.heap.size (.deferred none)).cell? ⟨w.heap.size+1+1,0,none⟩=some (.int .i64 11):=(aB ((World.putObj_heap_other (show w.heap.size+1+1≠w3.heap.size by omega)).trans h11)).1 0
   have dW:But (one w3.heap.size) Wc (Wc.putObj w3.heap.size (.deferred none)):=But.putObj _
   refine⟨.int .i64 11,by simp[results,Tryz.f23,go_sem,o9],.inl ⟨rfl,hbz,?_⟩⟩
   have hall:But (fun k=>w.heap.size≤k) w (Wc.putObj w3.heap.size (.deferred none)):=((But.of_below hB3).trans (hbu.mono fun k (hk:k=_)=>by omega)).trans (dW.mono fun k (hk:k=_)=>by omega)
   exact hall.below (Nat.le_refl _) (fun _ hk=>hk)
end Go.Proofs.YtfieenjdcpjmgaaGreatDoor
namespace Go.Proofs.YtfieenjdcpjmgaaGreatDoor
open Go.RowKit Go.WW
attribute [local irreducible] aH
def aqp(b n e p:Nat)(re:ByteArray)(s:Int)(E:List EE)(P:List ai)(w:World)(z:Ending)(w':World):Prop:=
 ∃(c s':Int) (N':List (ByteArray×Value)) (E':List EE),z=.returned (.int .i64 c)∧But (aZ b n e p) w w'∧bU w' b n e p re s' N' E' P∧(∀x∈E',x∈E)∧0≤s'∧s'≤s+1
theorem aiH{N N1:List (ByteArray×Value)}{E E1:List EE}{k:ByteArray}(h:tY N E k N1 E1):∀x∈E1,x∈E:=by
 rcases h with⟨x,hx,rfl,rfl,rfl⟩|⟨h,rfl,rfl⟩
 ·intro y hy;exact(List.mem_filter.1 hy).1
 ·exact fun x hx=>hx
end Go.Proofs.YtfieenjdcpjmgaaGreatDoor
namespace Go.WW
open Go.RowKit
def qm(a b:ByteArray):Bool:=Op.bytesLess a.toList b.toList || (a.toList == b.toList)
def fF(p:ai)(at_:Int):Nat→Bool→List ai→List ai
 |_,dn,[]=>if dn then []else [p]
 |k,dn,q::l=>(if !dn&&qm p.name q.name then [p]else [])++((if(k:Int) != at_ then [q]else [])++fF p at_ (k+1) (dn || qm p.name q.name) l)
def yQ(p:ai)(at_:Int)(L R:List ai)(k:Nat)(dn:Bool):Prop:=fF p at_ 0 false L=R++fF p at_ k dn (L.drop k)
theorem aiI(p:ai)(at_:Int)(L:List ai):yQ p at_ L [] 0 false:=rfl
theorem aiJ{p:ai}{at_:Int}{L R:List ai}{k:Nat}{dn:Bool}(h:yQ p at_ L R k dn)(hk:k<L.length) :
  yQ p at_ L (R++(if !dn&&qm p.name L[k].name then [p]else [])++(if(k:Int) != at_ then [L[k]]else [])) (k+1) (dn || qm p.name L[k].name):=by
 unfold yQ at *
 rw[h,List.drop_eq_getElem_cons hk]
 simp[fF,List.append_assoc]
theorem aiK{p:ai}{at_:Int}{L R:List ai}{k:Nat}{dn:Bool}(h:yQ p at_ L R k dn)(hk:L.length≤k):fF p at_ 0 false L=R++(if dn then []else [p]):=by
 unfold yQ at h;rw[h,List.drop_of_length_le hk];rfl
theorem MC(p:ai)(at_:Int):∀(l:List ai) (k:Nat),(fF p at_ k true l).length≤l.length
 | [],_=>by simp[fF]
 |q::l,k=>by
  have ih:=MC p at_ l (k+1)
  unfold fF
  simp only[Bool.not_true,Bool.false_and,Bool.true_or,Bool.false_eq_true,if_false,List.nil_append,List.length_append,List.length_cons]
  split<;>simp<;>omega
theorem Hl(p:ai)(at_:Int):∀(l:List ai) (k:Nat) (dn:Bool),(fF p at_ k dn l).length≤l.length+1
 | [],_,dn=>by unfold fF;split<;>simp
 |q::l,k,dn=>by
  have ih:=Hl p at_ l (k+1)
  unfold fF
  simp only[List.length_append,List.length_cons]
  cases dn
  ·cases h:qm p.name q.name
   ·have:=ih false
    simp only[Bool.not_false,Bool.true_and,Bool.false_or,Bool.false_eq_true,if_false,List.length_nil]
    split<;>simp<;>omega
   ·have h1:(fF p at_ (k+1) true l).length≤l.length:=MC p at_ l (k+1)
    simp only[Bool.not_false,Bool.true_and,Bool.false_or,if_true,List.length_cons,List.length_nil]
    split<;>simp<;>omega
  ·have h1:(fF p at_ (k+1) true l).length≤l.length:=MC p at_ l (k+1)
   simp only[Bool.not_true,Bool.false_and,Bool.true_or,Bool.false_eq_true,if_false,List.length_nil]
   split<;>simp<;>omega
theorem je.eG{w:World}{base:Nat}{e:TypeId}{s:Sl}{L:List ai}(h:Own w base e 10 s (L.map aC))(hn:L.length≤lim)(hs:∀p∈L,p.name.size≤lim):je w s.a L:=
 aX.eG h (by simp) hn (fun i hi=>by simp at hi;exact⟨L[i],List.getElem?_eq_getElem hi,by simp,hs _ (List.getElem_mem hi)⟩)
theorem MF(p:ai)(at_:Int):∀(l:List ai) (k:Nat) (dn:Bool) (x:ai),x∈fF p at_ k dn l→x=p∨x∈l
 | [],_,dn,x,h=>by unfold fF at h;split at h<;>simp at h;exact .inl h
 |q::l,k,dn,x,h=>by
  unfold fF at h
  simp only[List.mem_append]at h
  rcases h with h|h|h
  ·split at h<;>simp at h;exact .inl h
  ·split at h<;>simp at h;exact .inr (by simp[h])
  ·rcases MF p at_ l _ _ x h with h|h
   ·exact .inl h
   ·exact .inr (by simp[h])
def MG(e:Sl)(D:Db)(no:Int)(w:World)(x:Ending)(w':World):Prop:=∃s:Sl,x=.returned (.tuple #[.agg (ak e s D),.int .i64 no])∧Below w.heap.size w w'∧bH w' (fresh w.heap.size w') (fun y=>je y s.a D.au∧D.au.length≤s.cap)
theorem Own.cap{w:World}{base k:Nat}{e:TypeId}{s:Sl}{rows:List (Array Value)}(h:Own w base e k s rows):rows.length≤s.cap:=by
 rcases h.own.2 with⟨_,hn⟩|⟨g,cap,cur,hv,hb,hh,hle,_,hsz,_⟩
 ·omega
 ·have hc:s.cap=cap:=by injection hv
  omega
end Go.WW
namespace Go.Proofs.YtfieenjdcpjmgaaGreatDoor
open Go.RowKit Go.WW
theorem DF:gp Tryz.prog 30 50 10 88:=gp.of Tryz.underlying30 (by kernel_rfl)
theorem aiL(e q:Sl)(D:Db):fO (ak e q D) 0 4=some (ak e q D):=by kernel_rfl
theorem rO(e q:Sl)(D:Db)(c:Array Value)(t:TypeId)(w:World):∃W,(((w.alloc (.cells (ak e q D) 32)).alloc (.cells c t)).alloc (.cells #[.string ⟨#[]⟩,.int .i64 0,.slice none 0 0,.slice none 0 0] 32))=W∧Below w.heap.size w W∧W.heap[w.heap.size]?=some (.cells (ak e q D) 32)∧W.heap[w.heap.size+1]?=some (.cells c t)∧aS W (w.heap.size+1+1) 0 4=true∧W.heap.size=w.heap.size+1+1+1:=by
 refine⟨_,rfl,(((Below.refl _ _).alloc (Nat.le_refl _) _).alloc (by simp) _).alloc (by simp;omega) _,by rw[Below.heap_alloc _ _ _ (by simp;omega)];exact jq w _ _,?_,by simp[go_sem],by simp⟩
 rw[Below.heap_alloc _ _ _ (by simp)];have:=World.alloc_heap_new (w.alloc (.cells (ak e q D) 32)) (.cells c t);simpa using this
theorem aiM(a b:ByteArray):qm a b=(Op.bytesLess a.toList b.toList || (a.toList == b.toList)):=rfl
theorem VI{w W V:World}{e q s1:Sl}{D:Db}{L:List ai}{n:Nat}(hb:Below W.heap.size W V)(hx2:W.heap[w.heap.size]?=some (.cells (ak e q D) 32))(hz:aS W (w.heap.size+1+1) 0 4=true)(hW:w.heap.size+1+1<W.heap.size)(hL:L.length=n) :
  row? ((V.setCell ⟨w.heap.size,3,none⟩ (.slice s1.a n s1.cap)).setCell ⟨w.heap.size,1,none⟩ (.int .i64 (D.ay+1))) w.heap.size 0 4=some (ak e s1 {D with au:=L,ay:=D.ay+1})∧aS ((V.setCell ⟨w.heap.size,3,none⟩ (.slice s1.a n s1.cap)).setCell ⟨w.heap.size,1,none⟩ (.int .i64 (D.ay+1))) (w.heap.size+1+1) 0 4=true:=by
 subst hL
 have hne:w.heap.size+1+1≠w.heap.size:=by omega
 exact⟨(bQ (dI (o:=1) (.int .i64 (D.ay+1)) (dI (o:=3) (.slice s1.a L.length s1.cap) (aJ hb hx2)))).trans (by kernel_rfl),(lZ hne).trans ((lZ hne).trans ((gG hb _ 0 4 hW).trans hz))⟩
theorem aiN(e q:Sl)(D:Db)(p:ai)(w:World)(hs:p.name.size≤lim)(hv:dP p=false):Calls Tryz.prog 39 #[.agg (ak e q D),.agg (aC p)] w fun x w'=>x=.returned (.tuple #[.agg (ak e q D),.int .i64 2])∧Below w.heap.size w w':=by
 obtain⟨W,dE,hB,hx2,hx3,hz,hW⟩:=rO e q D (aC p) 50 w
 replace dE:=Lib.hid dE
 go_enter Tryz.func39,Tryz.ntmps39
 go_wp2_with fail
 rw[dE.out];clear dE
 refine(Rw _ _ hs).mono ?_
 rintro x w1 ⟨rfl,hb1⟩
 have hy2:=aJ hb1 hx2
 have hy3:=aJ hb1 hx3
 have hz1:=(gG hb1 (w.heap.size+1+1) 0 4 (by omega)).trans hz
 have hs1:=hb1.size
 obtain⟨hc,hf,hr,hlt⟩:=aB hy2
 obtain⟨hc3,hf3,hr3,hlt3⟩:=aB hy3
 have hne:w.heap.size+1+1≠w.heap.size:=by omega
 rw[hv]
 have hlt4:w.heap.size+1+1<w1.heap.size:=by omega
 go_wp2_with fail
 have hrow:=iO (w:=w1) (jD e q D) hz1
 exact bodyPost_ret (jE (by rfl) Tryz.underlying32 rfl (by kernel_rfl) rfl hrow) rfl ⟨rfl,Go.WW.Below.putRow (ag hB hb1) (by omega)⟩
theorem VJ(e q:Sl)(D:Db)(p:ai)(w:World)(hs:p.name.size≤lim)(hv:dP p=true)(hp:je w q.a D.au)(hn:D.au.length<64)(hs0:0≤D.ay)(hs1:D.ay<1000000)(at_:Int)(hi:idxOf (fun z=>decide (z.name=p.name)) D.au=at_):Calls Tryz.prog 39 #[.agg (ak e q D),.agg (aC p)] w (MG e {D with au:=fF p at_ 0 false D.au,ay:=D.ay+1} 0 w):=by
 obtain⟨W,dE,hB,hx2,hx3,hz,hW⟩:=rO e q D (aC p) 50 w
 replace dE:=Lib.hid dE
 have Hm:(D.ay+1).tmod 4611686018427387904=D.ay+1:=Int.tmod_eq_of_lt (by omega) (by omega)
 go_enter Tryz.func39,Tryz.ntmps39
 go_wp2_with fail
 rw[dE.out];clear dE
 refine(Rw _ _ hs).mono ?_
 rintro x w1 ⟨rfl,hb1⟩
 have hy2:=aJ hb1 hx2
 have hy3:=aJ hb1 hx3
 have hz1:=(gG hb1 (w.heap.size+1+1) 0 4 (by omega)).trans hz
 have hs1:=hb1.size
 obtain⟨hc,hf,hr,hlt⟩:=aB hy2
 obtain⟨hc3,hf3,hr3,hlt3⟩:=aB hy3
 have hne:w.heap.size+1+1≠w.heap.size:=by omega
 rw[hv]
 go_wp2_with fail
 refine(yB _ _ _ _ _ (hp.later (ag hB hb1))).mono ?_
 rintro x w2 ⟨rfl,hb2⟩
 rw[hi]
 have gu:=ag hb1 hb2
 clear hc hf hr hlt hc3 hf3 hr3 hlt3 hz1 hy2 hy3 hs1
 have hy2:=aJ gu hx2
 have hy3:=aJ gu hx3
 obtain⟨hc,hf,hr,hlt⟩:=aB hy2
 obtain⟨hc3,hf3,hr3,hlt3⟩:=aB hy3
 have aiO:¬(64:Int)≤(D.au.length:Int):=by omega
 obtain⟨qa,qc⟩:=q
 by_cases hat:at_<0
 all_goals
  go_wp2_with fail
  go_loopw [7,8,9] (fun ov dv iv wr=>∃(k m:Nat) (dn:Bool) (so:Sl) (R:List ai),k≤D.au.length∧m≤2*k∧iv=.int .i64 k∧dv=.bool dn∧ov=.slice so.a m so.cap∧Hid (R.length=m)∧Hid (yQ p at_ D.au R k dn)∧Below W.heap.size W wr∧Go.WW.Own wr W.heap.size 50 10 so (R.map aC)) (fun _ _ iv _=>D.au.length-(intOf iv).toNat)
  case atStart=>exact⟨0,0,false,⟨none,0⟩,[],Nat.zero_le _,by omega,rfl,rfl,rfl,rfl,aiI _ _ _,gu,Go.WW.Own.nil _ _ _ _⟩
  case round=>
   obtain⟨k,m,dn,s1,R,hk,hmk,rfl,rfl,rfl,hlr,hI,hbr,hO⟩:=hrel
   clear hc hf hr hlt hc3 hf3 hr3 hlt3 hy2 hy3
   have hy2:=aJ hbr hx2
   have hy3:=aJ hbr hx3
   obtain⟨hc,hf,hr,hlt⟩:=aB hy2
   obtain⟨hc3,hf3,hr3,hlt3⟩:=aB hy3
   have hBr:=ag hB hbr
   by_cases hkl:k<D.au.length
   ·obtain⟨b,o,rfl,hb⟩:=(aX.addr hp).resolve_left (by omega)
    have hki:(k:Int)<(D.au.length:Int):=by omega
    have hrow0:=(hp.at k hkl).1
    have hbw:b<wr.heap.size:=Nat.lt_of_lt_of_le hb hBr.size
    have hcell:wr.cell? ⟨b,o+k*10,none⟩=some (.string D.au[k].name):=by rw[hBr.cell (p:=⟨b,o+k*10,none⟩) hb];have:=gX hrow0 0 (by omega);simpa[go_sem]using this
    have HS:=aiJ hI.out hkl
    have hl3:=aiM p.name D.au[k].name
    generalize hxk:D.au[k]=x at *
    cases hkq:((k:Int) != at_)
    all_goals
     cases dn
     case' false=>
      cases h1:Op.bytesLess p.name.toList x.name.toList
      case' false=>cases h2:(p.name.toList == x.name.toList)
     all_goals
      first|(rw[h1,h2]at hl3)|(rw[h1]at hl3)|skip
      simp[hkq,hl3]at HS
      have HI:=Lib.hid HS
      clear HS hl3
      go_wp2_with fail
      refine dM (Below.refl _ wr) (by kernel_rfl) (by kernel_rfl) ?_
      repeat (go_big_quiet_step (fail))
      refine wpQuiet_nil ?_
      intro u1 hb5
      have iP:=ag hbr hb5
      clear hc hf hr hlt hc3 hf3 hr3 hlt3 hcell
      obtain⟨hc,hf,hr,hlt⟩:=aB (aJ iP hx2)
      obtain⟨hc3,hf3,hr3,hlt3⟩:=aB (aJ iP hx3)
      have VK:=(gZ ((ag hB iP).block b hb) (o+k*10) 10).trans hrow0
      have VL:=Nat.lt_of_lt_of_le hb (ag hB iP).size
      have hown1:Go.WW.Own u1 W.heap.size 50 10 s1 (R.map aC):=hO.kept fun g hg=>hb5.block g (hO.base hg).2
      go_wp2_with (first
       |(have xu:Go.WW.Own (u1.alloc (.cells (aC p) 50)) W.heap.size 50 10 s1 _:=hown1.kept (fun g hg=>Below.heap_alloc _ _ _ (hown1.base hg).2);at_builtin;refine gI rfl (.tmp 47) (.tmp 49) _ rfl DF (s:=s1) rfl (by have:=hlr.out;simp[this]) xu rfl rfl (cZ.new _ (aC p) _ _ (by simp[go_sem]) (by simp[go_sem])) (by have:=hlr.out;simp[this];omega) (by have h9:=iP.size;simp;omega) ?_;intro s1 u1 hown1 hg1 DI;have hbw2:=tK xu (aj iP _) hg1;have iP:=hbw2;clear DI hg1;obtain⟨gc,gf,gr,gl⟩:=aB (aJ iP hx2);have VK:=(gZ ((ag hB iP).block b hb) (o+k*10) 10).trans hrow0;have VL:=Nat.lt_of_lt_of_le hb (ag hB iP).size)
       |(have xu:Go.WW.Own (u1.alloc (.cells (aC x) 50)) W.heap.size 50 10 s1 _:=hown1.kept (fun g hg=>Below.heap_alloc _ _ _ (hown1.base hg).2);at_builtin;refine gI rfl (.tmp 54) (.tmp 60) _ rfl DF (s:=s1) rfl (by have:=hlr.out;simp[this]) xu rfl rfl (cZ.new _ (aC x) _ _ (by simp[go_sem]) (by simp[go_sem])) (by have:=hlr.out;simp[this];omega) (by have h9:=iP.size;simp;omega) ?_;intro s1 u1 hown1 hg1 DI;have hbw2:=tK xu (aj iP _) hg1;have iP:=hbw2;clear DI hg1;obtain⟨gc,gf,gr,gl⟩:=aB (aJ iP hx2);have VK:=(gZ ((ag hB iP).block b hb) (o+k*10) 10).trans hrow0;have VL:=Nat.lt_of_lt_of_le hb (ag hB iP).size))
      go_roundw
      case rel=>first|exact⟨k+1,_,_,s1,_,by omega,by omega,by go_num,rfl,rfl,Lib.hid (by have:=hlr.out;simp[this]),HI.out,iP,by simpa using hown1⟩|((repeat apply Exists.intro);exact⟨⟨k+1,_,_,s1,_,by omega,by omega,by go_num,rfl,rfl,Lib.hid (by have:=hlr.out;simp[this]),HI.out,iP,by simpa using hown1⟩,rfl⟩)
      case measure=>simp[intOf];omega
   ·have HE:=aiK hI.out (show D.au.length≤k by omega)
    have hlim:∀z∈fF p at_ 0 false D.au,z.name.size≤lim:=fun z hz=>by
     rcases MF _ _ _ _ _ z hz with rfl|h
     ·exact hs
     ·obtain⟨i',hi',rfl⟩:=List.mem_iff_getElem.1 h;obtain⟨_,_,_,_,h9⟩:=hp.get i' hi';exact h9
    have hll:=Hl p at_ D.au 0 false
    have hown1:=hO
    have iP:=hbr
    cases dn
    case' false=>
     have DJ:fF p at_ 0 false D.au=R++[p]:=by simpa using HE
     clear HE
     go_wp2_with (have xu:Go.WW.Own (wr.alloc (.cells (aC p) 50)) W.heap.size 50 10 s1 _:=hown1.kept (fun g hg=>Below.heap_alloc _ _ _ (hown1.base hg).2);at_builtin;refine gI rfl (.tmp 64) (.tmp 66) _ rfl DF (s:=s1) rfl (by have:=hlr.out;simp[this]) xu rfl rfl (cZ.new _ (aC p) _ _ (by simp[go_sem]) (by simp[go_sem])) (by have:=hlr.out;simp[this];omega) (by have h9:=iP.size;simp;omega) ?_;intro s1 u1 hown1 hg1 DI;have hbw2:=tK xu (aj iP _) hg1;have iP:=hbw2;clear DI hg1;clear hc hf hr hlt hc3 hf3 hr3 hlt3;have hwl:=iP.size;obtain⟨hc,hf,-,hlt⟩:=aB (aJ iP hx2);have HO:Go.WW.Own u1 W.heap.size 50 10 s1 ((R++[p]).map aC):=(by simpa using hown1);obtain⟨DK,hcp⟩:=VI (s1:=s1) (L:=R++[p]) (n:=m+1) iP hx2 hz (by omega) (by simp[hlr.out]))
     have hrow:=iO (jD e s1 {D with au:=R++[p],ay:=D.ay+1}) hcp
    case' true=>
     have DJ:fF p at_ 0 false D.au=R:=by simpa using HE
     clear HE hr
     have HO:=hO
     have hwl:=iP.size
     obtain⟨DK,hcp⟩:=VI (s1:=s1) iP hx2 hz (by omega) hlr.out
     go_wp2_with fail
     have hrow:=iO (jD e s1 {D with au:=R,ay:=D.ay+1}) hcp
    all_goals
     refine bodyPost_ret (jE (by rfl) Tryz.underlying32 rfl (by kernel_rfl) rfl hrow) rfl ⟨s1,by rw[DJ];rfl,Go.WW.Below.putRow (((ag hB iP).setCell (by simp) _).setCell (by simp) _) (by omega),?_⟩
     rw[DJ]
     refine fun y hy=>⟨je.eG (HO.kept fun g hg=>?_) (by have h9:=hll;rw[DJ]at h9;exact Nat.le_trans h9 (by unfold lim;omega)) (by rw[←DJ];exact hlim),by have h9:=Go.WW.Own.cap HO;rw[List.length_map]at h9;exact h9⟩
     have hg1:=HO.base hg
     rw[hy g ⟨by omega,by rw[kN];simp only[World.setCell,Array.size_modify];omega⟩,iI (by omega),Below.heap_setCell _ _ _ _ (show g≠w.heap.size by omega),Below.heap_setCell _ _ _ _ (show g≠w.heap.size by omega)]
end Go.Proofs.YtfieenjdcpjmgaaGreatDoor
