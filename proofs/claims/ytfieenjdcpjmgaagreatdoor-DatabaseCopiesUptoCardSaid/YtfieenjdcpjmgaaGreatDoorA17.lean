/- A part of the proof. -/
import Derived.Test.YtfieenjdcpjmgaaGreatDoorA16
import Derived.Test.YtfieenjdcpjmgaaGreatDoorA11
import Derived.Test.YtfieenjdcpjmgaaGreatDoorA10
import Derived.Test.YtfieenjdcpjmgaaGreatDoorA04
import Derived.Test.YtfieenjdcpjmgaaGreatDoorA12
set_option maxRecDepth 100000
set_option maxHeartbeats 8000000
namespace Go.Proofs.YtfieenjdcpjmgaaGreatDoor
open Go.RowKit Go.WW
attribute [local go_sem] Oper.semAt_some
attribute [local irreducible] aH
def Vg(b n e p:Nat)(re:ByteArray)(s:Int)(NL:List (ByteArray×ByteArray))(N1:List (ByteArray×Value))(E1:List EE)(P:List ah)(d:Entry)(w:World)(q:Ending)(w':World):Prop:=
 (q=.returned (.int .i64 11)∧GM NL d∧Below w.heap.size w w')∨
 (q=.returned (.int .i64 0)∧tY NL (textOf d.name) (d.name::d.aliases)∧But (aU b n e p) w w'∧∃r',lV (fun k=>k<w.heap.size) w' (r',d)∧bU w' b n e p re (s+1) (rF N1 (textOf d.name) (d.name::d.aliases)) (E1++[(r',d)]) P)
theorem oW{w:World}{b n e p:Nat}{re:ByteArray}{s:Int}{N:List (ByteArray×Value)}{E:List EE}{P:List ah}(h:bU w b n e p re s N E P):∀k,w.heap.size≤k→¬aU b n e p k:=fun k hk hd=>by
 have q1:=(Array.getElem?_eq_some_iff.1 h.box).1
 have q2:=h.nm.lt
 have q3:=h.em.lt
 have q4:=h.pm.lt
 rcases hd with rfl|rfl|rfl|rfl<;>omega
theorem AA{w W V:World}{b n e p:Nat}{re:ByteArray}{s:Int}{N:List (ByteArray×Value)}{E:List EE}{P:List ah}{r:aN}{d:Entry}(hb:Below W.heap.size W V)(ht:W.heap[w.heap.size]?=some (.cells #[.pointer (some ⟨b,0,none⟩)] 25))(jg:W.heap[w.heap.size+1]?=some (.cells (ae r d) 47))(hr4:W.heap[w.heap.size+1+1]?=some (.cells #[.int .i64 0] 26))(h':bU W b n e p re s N E P) :
  V.heap[w.heap.size]?=some (.cells #[.pointer (some ⟨b,0,none⟩)] 25)∧V.heap[w.heap.size+1]?=some (.cells (ae r d) 47)∧V.heap[w.heap.size+1+1]?=some (.cells #[.int .i64 0] 26)∧bU V b n e p re s N E P∧w.heap.size<V.heap.size∧w.heap.size+1<V.heap.size∧w.heap.size+1+1<V.heap.size∧(V.cell? ⟨b,0,none⟩=some (.string re)∧V.cell? ⟨b,1,none⟩=some (.int .i64 s)∧V.cell? ⟨b,2,none⟩=some (.map (some n))∧V.cell? ⟨b,3,none⟩=some (.map (some e))∧V.cell? ⟨b,4,none⟩=some (.map (some p))∧V.frozen? ⟨b,1,none⟩=false∧b<V.heap.size)∧row? V (w.heap.size+1) 0 17=some (ae r d)∧row? V (w.heap.size+1) 0 2=some (ai r.parts d.name)∧(∀o,V.cell? ⟨w.heap.size+1,o,none⟩=(ae r d)[o]?)∧V.cell? ⟨w.heap.size,0,none⟩=some (.pointer (some ⟨b,0,none⟩))∧V.cell? ⟨w.heap.size+1+1,0,none⟩=some (.int .i64 0)∧V.frozen? ⟨w.heap.size+1+1,0,none⟩=false:=
 have t:=aJ hb ht
 have e:=aJ hb jg
 have r:=aJ hb hr4
 have h:=h'.later hb
 have q:row? V (w.heap.size+1) 0 17=some _:=by rw[bP e];exact dm (by simp[go_sem])
 ⟨t,e,r,h,(aC t).2.2.2,(aC e).2.2.2,(aC r).2.2.2,dM h.box,q,uU q,(aC e).1,(aC t).1 0,(aC r).1 0,(aC r).2.1 0⟩
theorem ahU(b n e p:Nat)(re:ByteArray)(s:Int)(NL:List (ByteArray×ByteArray))(N1:List (ByteArray×Value))(E E1:List EE)(P:List ah)(r:aN)(d:Entry)(w:World)(h:bU w b n e p re s (fB NL) E P)(hre:¬re=⟨#[]⟩)(he:bJ w r d)(hE:∀x∈E,lV (aU b n e p) w x∧Az x.2)(hR:tV (fB NL) E (textOf d.name) N1 E1)(hok:Az d)(hv:bT d=true)(hrl:d.name.aF=re)(yJ:d.aO=⟨#[]⟩∨P.any (fun x=>decide (x.name=d.aO))=true)(hkeys:∀k o o',(k,o)∈NL→(k,o')∈NL→o=o')(hEl:E.length<4096)(hs0:0≤s)(hs1:s<1000000) :
  Calls Tryz.prog 23 #[.pointer (some ⟨b,0,none⟩),.agg (ae r d)] w (Vg b n e p re s NL N1 E1 P d w):=by
 have Vf:=str_eq _ _ hrl
 obtain⟨q0,Vh,hlp,Vj⟩:=ahR P d.aO
 obtain⟨r0,d0,ok,hle⟩:=ahQ E (textOf d.name)
 have Lr:=Lib.hid hle
 have HLP:=Lib.hid hlp
 have lW:=Lib.hid Vj
 clear hle hlp Vj
 obtain⟨hB,ht,jg,hr4,hsz⟩:=GN w b r d
 refine(callsIn_wide (n:=0)).1 ?_
 refine callsIn_of_wp_marks Tryz.func23 rfl trivial ?_ rfl
 simp only[Tryz.ntmps23,List.size_toArray,List.length_cons,List.length_nil,Nat.reduceAdd,Nat.reduceSub,Array.replicate_succ,Array.replicate_zero,List.push_toArray,List.append_toArray,List.nil_append,List.cons_append]
 gi_wp2
 have he':=he.later hB
 have h':=h.later hB
 unfold tZ at hB ht jg hr4 hsz he' h'
 generalize ((w.alloc (.cells #[.pointer (some ⟨b,0,none⟩)] 25)).alloc (.cells (ae r d) 47)).alloc (.cells #[.int .i64 0] 26)=W at *
 clear hsz
 obtain⟨apw,apx,apy,h_W,l0,l1,l2,⟨c0,c1',c2,c3,c4,f1,hl⟩,mJ,hrn,kK,hct,hc4,hf4⟩:=AA (Below.refl _ W) ht jg hr4 h'
 refine⟨trivial,rfl,(callsIn_wide.2 (jA _ _ _ c0 hre)).mono ?_⟩
 rintro x w' ⟨rfl,rfl⟩
 dsimp only
 gi_wp2
 refine(wpIn_wide (n:=0)).2 ?_
 refine wM (Below.refl _ W) (by kernel_rfl) (by kernel_rfl) ?_
 intro w1 hb1
 iterate 1 (refine aP (by kernel_rfl) (by kernel_rfl) (fun K hK=>?_);go_big_quiet_op;refine hK _ ?_;clear hK K)
 refine aT (by rfl) (by rfl) (fun K hK=>?_)
 go_wp2_with fail
 refine(CU r d w1 (he'.later hb1)).mono ?_
 rintro q w2 ⟨rfl,hb2⟩
 rw[hv]
 dsimp only
 have hb2':=ag hb1 hb2
 refine hK _ _ (aA hb2') ?_
 clear hK K
 iterate 12 (refine aP (by kernel_rfl) (by kernel_rfl) (fun K hK=>?_);go_big_quiet_op;refine hK _ ?_;clear hK K)
 refine bQ ?_
 clear c0 c1' c2 c3 c4 f1 hl mJ hrn kK hct hc4 hf4 l0 l1 l2
 obtain⟨apA,apB,apC,Vk,l0,l1,l2,⟨c0,c1',c2,c3,c4,f1,hl⟩,mJ,hrn,kK,hct,hc4,hf4⟩:=AA hb2' ht jg hr4 h'
 have hlk:∀x:Later w2,(Instr.lookup 86 (.map (some p)) (.string d.aO) true).run Tryz.prog x.w=.ok (.tuple #[.agg (aG q0),.bool Vh]) x.w:=fun x=>HLP.out _ _ (Vk.pm.at (x.b.block p Vk.pm.lt))
 gi_wp2
 refine(wpIn_wide (n:=0)).2 ?_
 refine wM (Below.refl _ w2) (by kernel_rfl) (by kernel_rfl) ?_
 intro wq hbq
 iterate 11 (refine aP (by kernel_rfl) (by kernel_rfl) (fun K hK=>?_);go_big_quiet_op;refine hK _ ?_;clear hK K)
 refine aT (by rfl) (by rfl) (fun K hK=>?_)
 go_wp2_with fail
 refine hK _ _ (aA (aj hbq _)) ?_
 clear hK K
 refine aT (by rfl) (by rfl) (fun K hK=>?_)
 go_wp2_with fail
 refine hK _ _ (aA (aj hbq (.cells (aG q0) 50))) ?_
 clear hK K
 iterate 1 (refine aP (by kernel_rfl) (by kernel_rfl) (fun K hK=>?_);go_big_quiet_op;refine hK _ ?_;clear hK K)
 refine bQ ?_
 have hb4:=ag hb2' (aj hbq (.cells (aG q0) 50))
 clear hbq hlk
 generalize (wq.alloc (.cells (aG q0) 50))=V at *
 clear c0 c1' c2 c3 c4 f1 hl mJ hrn kK hct hc4 hf4 l0 l1 l2
 obtain⟨apD,apE,apF,h_V,l0,l1,l2,⟨c0,c1',c2,c3,c4,f1,hl⟩,mJ,hrn,kK,hct,hc4,hf4⟩:=AA hb4 ht jg hr4 h'
 cases Vh
 case' false=>
  have hpe:d.aO=⟨#[]⟩:=by
   rcases yJ with h|h
   ·exact h
   ·rw[←lW.out]at h;cases h
  have hpc:V.cell? ⟨w.heap.size+1,6,none⟩=some (.string ⟨#[]⟩):=by rw[kK 6,Jq,hpe]
  clear kK
  have kK:True:=trivial
  gi_wp2
 case' true=>gi_wp2
 all_goals
  refine⟨trivial,rfl,(callsIn_wide.2 (KU _ _ _ (he'.later hb4))).mono ?_⟩
  rintro q w3 ⟨bN,sN,X,rfl,hb3,hbN,Dq,hX,hd⟩
  have Ls:=ag hb4 hb3
  have hB3:=ag hB Ls
  have apH:=hb3.size
  have GR:w.heap.size+1+1<V.heap.size:=l2
  dsimp only
  gi_wp2
  refine(wpIn_wide (n:=0)).2 ?_
  refine Gy (gf:=126) (lb:=#[.pointer (some ⟨bN,0,none⟩)]) (by simp[go_sem]) (enters_of Tryz.func126 (by kernel_rfl) rfl) (S:=one (w.heap.size+1+1)) ?_ (xs:=X) (V:=VN) ?_ (KY bN sN X (one (w.heap.size+1+1)) w3 Dq ?_ ?_)
   (fun c1 k Wc=>But (fun _=>False) w3 Wc∧tY NL (textOf d.name) ((X.map (·.2)).take k)∧w3.heap.size<c1) (fun c c1 _ Wc=>c=.ret∧GM NL d∧But (one (w.heap.size+1+1)) w3 Wc∧Wc.heap[w.heap.size+1+1]?=some (.cells #[.int .i64 11] 26)∧w3.heap.size<c1) ?_ ?_ ?_ ?_ ?_ ?_
  ·rintro k (rfl:k=_);omega
  ·rintro c1 xx v W0 Wc ⟨s',rfl,_⟩;rfl
  ·rintro k (rfl:k=_);omega
  ·intro y hy
   exact hd y fun k hk=>hy.block k hk.2 fun hk'=>by
    rcases hk' with(e:k=_)|e
    ·have:=hk.1;omega
    ·have:=hk.2;omega
  ·intro c1 Wc h1 h2 hb
   exact⟨But.of_below hb,by simp[tY],h1⟩
  ·rintro c1 k Wc yE ⟨h1,h2,h4⟩ hb
   exact⟨h1.past hb (fun j hj=>hj.1),h2,h4⟩
  ·rintro c c1 k Wc yE ⟨h1,h2,h3,h4,h5⟩ hb
   exact⟨h1,h2,h3.past hb (fun j hj=>hj.1),(hb.block _ (Array.getElem?_eq_some_iff.1 h4).1 (fun hj=>by have:=hj.1;omega)).trans h4,h5⟩
  ·rintro c1 k xx v W0 Wc hxx ⟨s',rfl,hp⟩ ⟨rC,hfr,hc0⟩ hbs hc1 wW
   have hsW:=hbs.size
   have hc2:c1≤Wc.heap.size:=Nat.le_trans wW hsW
   have hbu:But (fun _=>False) w3 Wc:=rC.past hbs (fun j hj=>hj.1)
   clear rC hbs
   obtain⟨s0,q⟩:=xx
   have hqm:(X.map (·.2))[k]?=some q:=by rw[List.getElem?_map,hxx];rfl
   have Vl:q∈d.name::d.aliases:=by rw[←hX];exact List.mem_of_getElem? hqm
   have Aw:bC q=true:=hok q Vl
   have HP:=Lib.hid hp
   have Vm:=Lib.hid hfr
   clear hp hfr
   dsimp only
   gi_wp2
   have hal:Below Wc.heap.size Wc (Wc.alloc (.cells (ai s' q) 40)):=(Below.refl _ _).alloc (Nat.le_refl _) _
   refine⟨hal,fun U hU=>?_⟩
   have qf:U.heap[Wc.heap.size]?=some (.cells (ai s' q) 40):=(hU.block _ (by simp) (bf (by omega))).trans (World.alloc_heap_new _ _)
   have Ld:Wc.heap.size<U.heap.size:=(Array.getElem?_eq_some_iff.1 qf).1
   have lU:But (fun _=>False) w3 U:=(hbu.trans (But.of_below hal)).past hU (fun j hj=>by have:j=_:=hj;omega)
   have Vo:Below w3.heap.size w3 U:=lU.below (Nat.le_refl _) (fun _ hf=>hf.elim)
   have vw:bz U s' q:=HP.out U fun j hj=>(hU.block j (by have:=hj.2;simp;omega) (bf (by have:=hj.1;omega))).trans (hal.block j hj.2)
   have Vp:=ag Ls Vo
   have ji:row? U Wc.heap.size 0 2=some (ai s' q):=by rw[bP qf];exact dm (by simp[go_sem])
   clear hal hU hbu HP
   clear c0 c1' c2 c3 c4 f1 hl mJ hrn kK hct hc4 hf4 l0 l1 l2
   obtain⟨apI,Vq,ahW,Dt,l0,l1,l2,⟨c0,c1',c2,c3,c4,f1,hl⟩,mJ,hrn,kK,hct,hc4,hf4⟩:=AA Vp ht jg hr4 h'
   have Lm:bz U r.parts d.name:=(he'.later Vp).name
   have apJ:=Dt.nm
   by_cases hin:∃o,(textOf q,o)∈NL
   ·obtain⟨o,ho⟩:=hin
    have hlk:∀x:pV (fun _=>False) U,(Instr.lookup 84 (.map (some n)) (.string (textOf q)) true).run Tryz.prog x.w=.ok (.tuple #[.string o,.bool true]) x.w:=fun x=>ahO (Dt.nm.at (x.b.block n Dt.nm.lt (fun hf=>hf))) ho
    gi_wp2
    refine TI.Gx (fun _=>False) (But.refl _ U) (by kernel_rfl) (by kernel_rfl) (by kernel_rfl) ?_
    repeat (first|(refine TI.ak (by rfl) ?_)|(refine TI.aI (by rfl) (by rfl) (fun K hK=>?_);go_big_quiet_op;refine hK _ ?_;clear hK K))
    refine TI.aK (by rfl) (by rfl) (by rfl) (fun K hK=>?_)
    go_wp2_with fail
    refine(qY _ _ U.drew (vw.later (Below.refl _ _).drew) Aw).mono ?_
    rintro z U2 ⟨rfl,hbk⟩
    dsimp only
    have hbb:Below U.heap.size U U2:=(Below.refl _ U).drew.trans hbk
    refine hK _ _ (cu (But.of_below hbb)) ?_
    clear hK K
    repeat (first|(refine TI.ak (by rfl) ?_)|(refine TI.aI (by rfl) (by rfl) (fun K hK=>?_);go_big_quiet_op;refine hK _ ?_;clear hK K))
    refine TI.bQ ?_
    have Du:=aJ hbb Vq
    have ahX:row? U2 (w.heap.size+1) 0 2=some (ai r.parts d.name):=uU (d:=d) (by rw[bP Du];exact dm (by simp[go_sem]))
    have l12:w.heap.size+1<U2.heap.size:=(Array.getElem?_eq_some_iff.1 Du).1
    gi_wp2
    refine⟨trivial,rfl,CallsIn.mono (F:=Fence.wide.inRound (w3.heap.size+1)) (callsIn_wide.2 (qY _ _ U2 (Lm.later hbb) (hok _ (by simp)))) ?_⟩
    rintro z U3 ⟨rfl,GU⟩
    dsimp only
    have Dv:=ag hbb GU
    have hr3:=aJ Dv ahW
    have apK:U3.cell? ⟨w.heap.size+1+1,0,none⟩=some (.int .i64 0):=(aC hr3).1 0
    have apL:U3.frozen? ⟨w.heap.size+1+1,0,none⟩=false:=(aC hr3).2.1 0
    have l23:w.heap.size+1+1<U3.heap.size:=(Array.getElem?_eq_some_iff.1 hr3).1
    by_cases hoe:o=textOf d.name
    ·have ahY:=str_eq _ _ hoe
     gi_wp2
     refine⟨But.of_below Dv,lU.trans (But.of_below Dv),?_,by omega⟩
     rw[←hX,take_snoc hqm]
     exact U8 Vm.out (fun o' ho'=>by rw[hkeys _ _ _ ho' ho];exact hoe)
    ·have ahY:=kY _ _ hoe
     gi_wp2
     have hset:=dF (o:=0) (.int .i64 11) hr3
     have hbx:But (one (w.heap.size+1+1)) U3 (U3.setCell ⟨w.heap.size+1+1,0,none⟩ (.int .i64 11)):=⟨rfl,rfl,rfl,by simp[World.setCell],fun k _ hn'=>Below.heap_setCell _ _ _ _ hn'⟩
     exact⟨((But.of_below Dv).trans hbx).mono fun _ h=>.inl h,rfl,⟨q,Vl,o,ho,hoe⟩,((But.of_below Vo).trans (But.of_below Dv)).trans hbx,hset,by omega⟩
   ·have hno:∀o,(textOf q,o)∉NL:=fun o ho=>hin ⟨o,ho⟩
    have hlk:∀x:pV (fun _=>False) U,(Instr.lookup 84 (.map (some n)) (.string (textOf q)) true).run Tryz.prog x.w=.ok (.tuple #[.string ⟨#[]⟩,.bool false]) x.w:=fun x=>ahP (Dt.nm.at (x.b.block n Dt.nm.lt (fun hf=>hf))) hno
    gi_wp2
    refine TI.Gx (fun _=>False) (But.refl _ U) (by kernel_rfl) (by kernel_rfl) (by kernel_rfl) ?_
    repeat (first|(refine TI.ak (by rfl) ?_)|(refine TI.aI (by rfl) (by rfl) (fun K hK=>?_);go_big_quiet_op;refine hK _ ?_;clear hK K))
    refine TI.aK (by rfl) (by rfl) (by rfl) (fun K hK=>?_)
    go_wp2_with fail
    refine(qY _ _ U.drew (vw.later (Below.refl _ _).drew) Aw).mono ?_
    rintro z U2 ⟨rfl,hbk⟩
    dsimp only
    have hbb:Below U.heap.size U U2:=(Below.refl _ U).drew.trans hbk
    refine hK _ _ (cu (But.of_below hbb)) ?_
    clear hK K
    repeat (first|(refine TI.ak (by rfl) ?_)|(refine TI.aI (by rfl) (by rfl) (fun K hK=>?_);go_big_quiet_op;refine hK _ ?_;clear hK K))
    refine TI.bQ ?_
    have Du:=aJ hbb Vq
    have ahX:row? U2 (w.heap.size+1) 0 2=some (ai r.parts d.name):=uU (d:=d) (by rw[bP Du];exact dm (by simp[go_sem]))
    have l12:w.heap.size+1<U2.heap.size:=(Array.getElem?_eq_some_iff.1 Du).1
    gi_wp2
    refine⟨trivial,?_⟩
    gi_wp2
    refine⟨But.of_below hbb,lU.trans (But.of_below hbb),?_,by omega⟩
    rw[←hX,take_snoc hqm]
    exact U8 Vm.out (fun o' ho'=>absurd ho' (hno o'))
  ·rintro c1 Wc ⟨hbu,hfree,hc0⟩ hD
   rw[List.take_of_length_le (by simp),hX]at hfree
   have hbc:Below w3.heap.size w3 Wc:=hbu.below (Nat.le_refl _) (fun _ hf=>hf.elim)
   have GV:=ag Ls hbc
   clear c0 c1' c2 c3 c4 f1 hl mJ hrn kK hct hc4 hf4 l0 l1 l2
   obtain⟨apN,apO,apP,Vr,l0,l1,l2,⟨c0,c1',c2,c3,c4,f1,hl⟩,mJ,hrn,kK,hct,hc4,hf4⟩:=AA GV ht jg hr4 h'
   have hlk:∀x:Later Wc,(Instr.lookup 85 (.map (some e)) (.string (textOf d.name)) true).run Tryz.prog x.w=.ok (.tuple #[.agg (ae r0 d0),.bool ok]) x.w:=fun x=>Lr.out _ _ (Vr.em.at (x.b.block e Vr.em.lt))
   have Vs:bz Wc r.parts d.name:=(he'.later GV).name
   gi_wp2
   refine(wpIn_wide (n:=0)).2 ?_
   refine yI 12 7 [0,1,2,3,4,5,6,12,7,8,9,10,11,13,14] (Below.refl _ Wc) (by kernel_rfl) (by kernel_rfl) (by rfl) ?_ ?_
   intro v1 hv1
   iterate 7 (refine aP (by kernel_rfl) (by kernel_rfl) (fun K hK=>?_);go_big_quiet_op;refine hK _ ?_;clear hK K)
   refine aT (by rfl) (by rfl) (fun K hK=>?_)
   go_wp2_with fail
   refine(qY _ _ v1 (Vs.later hv1) (hok _ (by simp))).mono ?_
   rintro z v2 ⟨rfl,hv2⟩
   dsimp only
   have bF:=ag hv1 hv2
   refine hK _ _ (aA bF) ?_
   clear hK K
   iterate 4 (refine aP (by kernel_rfl) (by kernel_rfl) (fun K hK=>?_);go_big_quiet_op;refine hK _ ?_;clear hK K)
   refine aT (by rfl) (by rfl) (fun K hK=>?_)
   go_wp2_with fail
   refine hK _ _ (aA (aj bF _)) ?_
   clear hK K
   refine aT (by rfl) (by rfl) (fun K hK=>?_)
   go_wp2_with fail
   refine hK _ _ (aA (aj bF (.cells (ae r0 d0) 47))) ?_
   clear hK K
   iterate 1 (refine aP (by kernel_rfl) (by kernel_rfl) (fun K hK=>?_);go_big_quiet_op;refine hK _ ?_;clear hK K)
   refine bQ ?_
   have dI:=aj bF (.cells (ae r0 d0) 47)
   clear hlk hv1 hv2 bF
   generalize (v2.alloc (.cells (ae r0 d0) 47))=V5 at *
   have GX:=ag GV dI
   have mM:=ag hB GX
   clear c0 c1' c2 c3 c4 f1 hl mJ hrn kK hct hc4 hf4 l0 l1 l2
   rotate_left
   intro v1 hv1
   simp only[pick,List.getElem?_cons_zero,List.getElem?_cons_succ]
   iterate 7 (refine aP (by kernel_rfl) (by kernel_rfl) (fun K hK=>?_);go_big_quiet_op;refine hK _ ?_;clear hK K)
   refine aT (by rfl) (by rfl) (fun K hK=>?_)
   go_wp2_with fail
   refine hK _ _ (aA (aj hv1 _)) ?_
   clear hK K
   rw[←rq]
   have hz1:=World.alloc_heap_new v1 (.cells (ae dh bI) 47)
   have gB:=aj hv1 (.cells (ae dh bI) 47)
   generalize v1.alloc (.cells (ae dh bI) 47)=Z at *
   refine aT (by rfl) (by rfl) (fun K hK=>?_)
   go_wp2_with fail
   refine(qY _ _ _ (Vs.later gB) (hok _ (by simp))).mono ?_
   rintro z v2 ⟨rfl,hv2⟩
   dsimp only
   have bF:=ag gB hv2
   refine hK _ _ (aA bF) ?_
   clear hK K
   have hz2:=aJ hv2 hz1
   have hcp:aQ v2 v1.heap.size 0 17=true:=mF hz2 (by simp[go_sem])
   have dI:=Go.WW.Below.putRow (o:=0) (cs:=ae r0 d0) bF hv1.size
   iterate 4 (refine aP (by kernel_rfl) (by kernel_rfl) (fun K hK=>?_);go_big_quiet_op;refine hK _ ?_;clear hK K)
   refine aT (by rfl) (by rfl) (fun K hK=>?_)
   go_wp2_with fail
   refine hK _ _ (aA dI) ?_
   clear hK K
   iterate 1 (refine aP (by kernel_rfl) (by kernel_rfl) (fun K hK=>?_);go_big_quiet_op;refine hK _ ?_;clear hK K)
   refine bQ ?_
   clear hlk hv2 bF hz1 hz2 hcp gB
   generalize (putRow v2 v1.heap.size 0 (ae r0 d0))=V5 at *
   have GX:=ag GV dI
   have mM:=ag hB GX
   clear c0 c1' c2 c3 c4 f1 hl mJ hrn kK hct hc4 hf4 l0 l1 l2
   all_goals
    obtain⟨ahZ,apQ,ah0,ah3,l0,l1,l2,⟨c0,c1',c2,c3,c4,f1,hl⟩,mJ,hrn,kK,hct,hc4,hf4⟩:=AA GX ht jg hr4 h'
    have hD5:V5.heap[w3.heap.size]?=some (.deferred (some [])):=aJ dI hD
    have hln:=yx (P:=Tryz.prog) (ty:=3) (nG:=#[85]) rfl Tryz.underlying85 ah3.em
    rw[List.length_map]at hln
    have apR:¬(4096:Int)≤(E.length:Int):=by omega
    have n0:=oW h w.heap.size (Nat.le_refl _)
    have n1:=oW h (w.heap.size+1) (by omega)
    have n2:=oW h (w.heap.size+1+1) (by omega)
    have n3:=oW h w3.heap.size (by have:=hB3.size;omega)
    cases ok
    all_goals
     gi_wp2
     refine(wpIn_wide (n:=0)).2 ?_
     refine mG (aU b n e p) (But.refl _ V5) (by kernel_rfl) (by kernel_rfl) ?_
     iterate 4 (refine aP (by kernel_rfl) (by kernel_rfl) (fun K hK=>?_);go_big_quiet_op;refine hK _ ?_;clear hK K)
     refine aT (by rfl) (by rfl) (fun K hK=>?_)
     go_wp2_with fail
     refine(agL r d V5.drew ((he.later mM).later (Below.refl _ _).drew)).mono ?_
     rintro q V6 ⟨r',rfl,hb6,hd6⟩
     dsimp only
     have lu:Below V5.heap.size V5 V6:=(Below.refl _ V5).drew.trans hb6
     refine hK _ _ (cu (But.of_below lu)) ?_
     clear hK K
     refine aT (by rfl) (by rfl) (fun K hK=>?_)
     go_wp2_with fail
     have nZ:=ag mM lu
     have hkv:∀y,But (fun k=>k<V5.heap.size) V6 y→bJ y r' d:=fun y hy=>hd6 y fun k hk=>hy.block k hk.2 (fun hk'=>by have h1:V5.drew.heap.size≤k:=hk.1;have h2:V5.drew.heap.size=V5.heap.size:=rfl;omega)
     have hdv:∀k,aU b n e p k→k<V5.heap.size:=fun k hk=>Nat.lt_of_not_le fun hge=>oW h k (Nat.le_trans mM.size hge) hk
     have hke:lV (aU b n e p) V6 (r',d):=fun y hy=>hkv y (hy.mono hdv)
     refine(ahJ b n e p re s (fB NL) N1 E E1 P r' d V6 (h.later nZ) (fun x hx=>⟨(hE x hx).1.on (But.of_below nZ),(hE x hx).2⟩) hR hke hok).mono ?_
     rintro q V7 ⟨rfl,hb7,h7⟩
     dsimp only
     have jX:But (aU b n e p) V5 V7:=(But.of_below lu).trans hb7
     refine hK _ _ (cu jX) ?_
     clear hK K
     refine bQ ?_
     have ah4:But (fun k=>k<V5.heap.size) V6 V7:=hb7.mono hdv
     have apS:w.heap.size+1+1<V5.heap.size:=l2
     have apT:w3.heap.size<V5.heap.size:=(Array.getElem?_eq_some_iff.1 hD5).1
     have Lt:=(jX.block _ l0 n0).trans ahZ
     have yK:=(jX.block _ l2 n2).trans ah0
     have hD7:=(jX.block _ (Array.getElem?_eq_some_iff.1 hD5).1 n3).trans hD5
     have kL:But (aU b n e p) w V7:=(But.of_below mM).trans jX
     clear c0 c1' c2 c3 c4 f1 hl mJ hrn kK hct hc4 hf4 l0 l1 l2 hln
     obtain⟨c0,c1,c2,c3,c4,f1,hl⟩:=dM h7.box
     have l0:w.heap.size<V7.heap.size:=(Array.getElem?_eq_some_iff.1 Lt).1
     have hct:V7.cell? ⟨w.heap.size,0,none⟩=some (.pointer (some ⟨b,0,none⟩)):=(aC Lt).1 0
     gi_wp2
     refine⟨trivial,rfl,(callsIn_wide.2 (wO b s V7 c1 f1 hs0 hs1)).mono ?_⟩
     rintro q w' ⟨rfl,rfl⟩
     dsimp only
     have hbw:b<w.heap.size:=(Array.getElem?_eq_some_iff.1 h.box).1
     have lC:=dF (o:=1) (.int .i64 (s+1)) h7.box
     rw[uX]at lC
     have hoth:∀k,k≠b→(V7.setCell ⟨b,1,none⟩ (.int .i64 (s+1))).heap[k]?=V7.heap[k]?:=fun k hk=>Below.heap_setCell _ _ _ _ hk
     have yL:(V7.setCell ⟨b,1,none⟩ (.int .i64 (s+1))).heap.size=V7.heap.size:=by simp[World.setCell]
     have og:=(hoth _ (by omega)).trans yK
     have hD8:=(hoth w3.heap.size (by have:=hB3.size;omega)).trans hD7
     have hc8:(V7.setCell ⟨b,1,none⟩ (.int .i64 (s+1))).cell? ⟨w.heap.size+1+1,0,none⟩=some (.int .i64 0):=(aC og).1 0
     have GY:(V7.setCell ⟨b,1,none⟩ (.int .i64 (s+1))).frozen? ⟨w.heap.size+1+1,0,none⟩=false:=(aC og).2.1 0
     have l8:w.heap.size+1+1<(V7.setCell ⟨b,1,none⟩ (.int .i64 (s+1))).heap.size:=(Array.getElem?_eq_some_iff.1 og).1
     have rG:But (aU b n e p) w (V7.setCell ⟨b,1,none⟩ (.int .i64 (s+1))):=⟨kL.os,kL.tape,kL.output,by rw[yL];exact kL.size,fun k hk hn'=>(hoth k (fun e'=>hn' (.inl e'))).trans (kL.block k hk hn')⟩
     have hnb:n≠b:=fun e'=>fK h7.box h7.nm e'.symm
     have heb:e≠b:=fun e'=>fK h7.box h7.em e'.symm
     have hpb:p≠b:=fun e'=>fK h7.box h7.pm e'.symm
     have h8:bU (V7.setCell ⟨b,1,none⟩ (.int .i64 (s+1))) b n e p re (s+1) (rF N1 (textOf d.name) (d.name::d.aliases)) (E1++[(r',d)]) P:=⟨lC,h7.nm.at (hoth n hnb),h7.em.at (hoth e heb),h7.pm.at (hoth p hpb),h.ne⟩
     have ah6:But (fun k=>k<V5.heap.size) V6 (V7.setCell ⟨b,1,none⟩ (.int .i64 (s+1))):=ah4.trans ⟨rfl,rfl,rfl,by rw[yL];exact Nat.le_refl _,fun k _ hn'=>hoth k (fun e'=>hn' (hdv k (.inl e')))⟩
     clear lC hoth yL c0 c1 c2 c3 c4 f1 hl hct l0 yK hD7 Lt
     generalize V7.setCell ⟨b,1,none⟩ (.int .i64 (s+1))=V8 at *
     gi_wp2
     have hw3:=hB3.size
     have ah7:=dF (o:=0) (.int .i64 0) og
     have Lu:(V8.setCell ⟨w.heap.size+1+1,0,none⟩ (.int .i64 0)).heap[w3.heap.size]?=some (.deferred (some [])):=(Below.heap_setCell _ _ _ _ (show w3.heap.size≠w.heap.size+1+1 by omega)).trans hD8
     refine⟨by simp,.inl ⟨_,_,rfl,run_takeDeferred Lu,?_⟩⟩
     have Vt:∀k,k≠w.heap.size+1+1→k≠w3.heap.size→((V8.setCell ⟨w.heap.size+1+1,0,none⟩ (.int .i64 0)).putObj w3.heap.size (.deferred none)).heap[k]?=V8.heap[k]?:=fun k h1 h2=>(World.putObj_heap_other h2).trans (Below.heap_setCell _ _ _ _ h1)
     have ah8:V8.heap.size≤((V8.setCell ⟨w.heap.size+1+1,0,none⟩ (.int .i64 0)).putObj w3.heap.size (.deferred none)).heap.size:=by simp[World.setCell,World.putObj]
     have oU:((V8.setCell ⟨w.heap.size+1+1,0,none⟩ (.int .i64 0)).putObj w3.heap.size (.deferred none)).cell? ⟨w.heap.size+1+1,0,none⟩=some (.int .i64 0):=(aC ((World.putObj_heap_other (show w.heap.size+1+1≠w3.heap.size by omega)).trans ah7)).1 0
     have fH:But (fun k=>k=w.heap.size+1+1∨k=w3.heap.size) V8 ((V8.setCell ⟨w.heap.size+1+1,0,none⟩ (.int .i64 0)).putObj w3.heap.size (.deferred none)):=⟨rfl,rfl,rfl,ah8,fun k _ hn'=>Vt k (fun e'=>hn' (.inl e')) (fun e'=>hn' (.inr e'))⟩
     refine⟨.int .i64 0,by simp[results,Tryz.f23,go_sem,oU],.inr ⟨rfl,hfree,rG.past fH (fun k hk=>by rcases hk with rfl|rfl<;>omega),r',fun y hy=>hkv y ((ah6.trans (fH.mono fun k hk=>by rcases hk with rfl|rfl<;>assumption)).trans (hy.mono fun k hk=>Nat.lt_of_lt_of_le hk mM.size)),?_⟩⟩
     have Vu:∀k,aU b n e p k→k<w.heap.size:=fun k hk=>Nat.lt_of_not_le fun hge=>oW h k hge hk
     have hk9:∀k,aU b n e p k→((V8.setCell ⟨w.heap.size+1+1,0,none⟩ (.int .i64 0)).putObj w3.heap.size (.deferred none)).heap[k]?=V8.heap[k]?:=fun k hk=>Vt k (by have:=Vu k hk;omega) (by have:=Vu k hk;omega)
     exact⟨(hk9 b (.inl rfl)).trans h8.box,h8.nm.at (hk9 n (.inr (.inl rfl))),h8.em.at (hk9 e (.inr (.inr (.inl rfl)))),h8.pm.at (hk9 p (.inr (.inr (.inr rfl)))),h.ne⟩
  ·rintro c c1 k Wc ⟨rfl,hbz,hbu,h11,hc0⟩ hD
   refine(wpIn_wide (n:=0)).1 ?_
   gi_wp2
   refine⟨by simp,.inl ⟨_,_,rfl,run_takeDeferred hD,?_⟩⟩
   have oU:(Wc.putObj w3.heap.size (.deferred none)).cell? ⟨w.heap.size+1+1,0,none⟩=some (.int .i64 11):=(aC ((World.putObj_heap_other (show w.heap.size+1+1≠w3.heap.size by omega)).trans h11)).1 0
   have fH:But (one w3.heap.size) Wc (Wc.putObj w3.heap.size (.deferred none)):=But.putObj _
   refine⟨.int .i64 11,by simp[results,Tryz.f23,go_sem,oU],.inl ⟨rfl,hbz,?_⟩⟩
   have hall:But (fun k=>w.heap.size≤k) w (Wc.putObj w3.heap.size (.deferred none)):=((But.of_below hB3).trans (hbu.mono fun k (hk:k=_)=>by omega)).trans (fH.mono fun k (hk:k=_)=>by omega)
   exact hall.below (Nat.le_refl _) (fun _ hk=>hk)
end Go.Proofs.YtfieenjdcpjmgaaGreatDoor
namespace Go.Proofs.YtfieenjdcpjmgaaGreatDoor
open Go.RowKit Go.WW
attribute [local irreducible] aH
def apU(b n e p:Nat)(re:ByteArray)(s:Int)(E:List EE)(P:List ah)(w:World)(z:Ending)(w':World):Prop:=
 ∃(c s':Int) (N':List (ByteArray×Value)) (E':List EE),z=.returned (.int .i64 c)∧But (aU b n e p) w w'∧bU w' b n e p re s' N' E' P∧(∀x∈E',x∈E)∧0≤s'∧s'≤s+1
theorem ah9{N N1:List (ByteArray×Value)}{E E1:List EE}{k:ByteArray}(h:tV N E k N1 E1):∀x∈E1,x∈E:=by
 rcases h with⟨x,hx,rfl,rfl,rfl⟩|⟨h,rfl,rfl⟩
 ·intro y hy;exact(List.mem_filter.1 hy).1
 ·exact fun x hx=>hx
end Go.Proofs.YtfieenjdcpjmgaaGreatDoor
namespace Go.WW
open Go.RowKit
def qh(a b:ByteArray):Bool:=Op.bytesLess a.toList b.toList || (a.toList == b.toList)
def fC(p:ah)(at_:Int):Nat→Bool→List ah→List ah
 |_,dn,[]=>if dn then []else [p]
 |k,dn,q::l=>(if !dn&&qh p.name q.name then [p]else [])++((if(k:Int) != at_ then [q]else [])++fC p at_ (k+1) (dn || qh p.name q.name) l)
def yM(p:ah)(at_:Int)(L R:List ah)(k:Nat)(dn:Bool):Prop:=fC p at_ 0 false L=R++fC p at_ k dn (L.drop k)
theorem aia(p:ah)(at_:Int)(L:List ah):yM p at_ L [] 0 false:=rfl
theorem aib{p:ah}{at_:Int}{L R:List ah}{k:Nat}{dn:Bool}(h:yM p at_ L R k dn)(hk:k<L.length) :
  yM p at_ L (R++(if !dn&&qh p.name L[k].name then [p]else [])++(if(k:Int) != at_ then [L[k]]else [])) (k+1) (dn || qh p.name L[k].name):=by
 unfold yM at *
 rw[h,List.drop_eq_getElem_cons hk]
 simp[fC,List.append_assoc]
theorem aic{p:ah}{at_:Int}{L R:List ah}{k:Nat}{dn:Bool}(h:yM p at_ L R k dn)(hk:L.length≤k):fC p at_ 0 false L=R++(if dn then []else [p]):=by
 unfold yM at h;rw[h,List.drop_of_length_le hk];rfl
theorem LC(p:ah)(at_:Int):∀(l:List ah) (k:Nat),(fC p at_ k true l).length≤l.length
 | [],_=>by simp[fC]
 |q::l,k=>by
  have ih:=LC p at_ l (k+1)
  unfold fC
  simp only[Bool.not_true,Bool.false_and,Bool.true_or,Bool.false_eq_true,if_false,List.nil_append,List.length_append,List.length_cons]
  split<;>simp<;>omega
theorem GZ(p:ah)(at_:Int):∀(l:List ah) (k:Nat) (dn:Bool),(fC p at_ k dn l).length≤l.length+1
 | [],_,dn=>by unfold fC;split<;>simp
 |q::l,k,dn=>by
  have ih:=GZ p at_ l (k+1)
  unfold fC
  simp only[List.length_append,List.length_cons]
  cases dn
  ·cases h:qh p.name q.name
   ·have:=ih false
    simp only[Bool.not_false,Bool.true_and,Bool.false_or,Bool.false_eq_true,if_false,List.length_nil]
    split<;>simp<;>omega
   ·have h1:(fC p at_ (k+1) true l).length≤l.length:=LC p at_ l (k+1)
    simp only[Bool.not_false,Bool.true_and,Bool.false_or,if_true,List.length_cons,List.length_nil]
    split<;>simp<;>omega
  ·have h1:(fC p at_ (k+1) true l).length≤l.length:=LC p at_ l (k+1)
   simp only[Bool.not_true,Bool.false_and,Bool.true_or,Bool.false_eq_true,if_false,List.length_nil]
   split<;>simp<;>omega
theorem iU.ed{w:World}{base:Nat}{e:TypeId}{s:Sl}{L:List ah}(h:Own w base e 10 s (L.map aG))(hn:L.length≤lim)(hs:∀p∈L,p.name.size≤lim):iU w s.a L:=
 aV.ed h (by simp) hn (fun i hi=>by simp at hi;exact⟨L[i],List.getElem?_eq_getElem hi,by simp,hs _ (List.getElem_mem hi)⟩)
theorem LG(p:ah)(at_:Int):∀(l:List ah) (k:Nat) (dn:Bool) (x:ah),x∈fC p at_ k dn l→x=p∨x∈l
 | [],_,dn,x,h=>by unfold fC at h;split at h<;>simp at h;exact .inl h
 |q::l,k,dn,x,h=>by
  unfold fC at h
  simp only[List.mem_append]at h
  rcases h with h|h|h
  ·split at h<;>simp at h;exact .inl h
  ·split at h<;>simp at h;exact .inr (by simp[h])
  ·rcases LG p at_ l _ _ x h with h|h
   ·exact .inl h
   ·exact .inr (by simp[h])
def LH(e:Sl)(D:Db)(no:Int)(w:World)(x:Ending)(w':World):Prop:=∃s:Sl,x=.returned (.tuple #[.agg (au e s D),.int .i64 no])∧Below w.heap.size w w'∧bD w' (fresh w.heap.size w') (fun y=>iU y s.a D.ax∧D.ax.length≤s.cap)
theorem Own.cap{w:World}{base k:Nat}{e:TypeId}{s:Sl}{rows:List (Array Value)}(h:Own w base e k s rows):rows.length≤s.cap:=by
 rcases h.own.2 with⟨_,hn⟩|⟨g,cap,cur,hv,hb,hh,hle,_,hsz,_⟩
 ·omega
 ·have hc:s.cap=cap:=by injection hv
  omega
end Go.WW
namespace Go.Proofs.YtfieenjdcpjmgaaGreatDoor
open Go.RowKit Go.WW
theorem Dw:fQ Tryz.prog 30 50 10 88:=fQ.of Tryz.underlying30 (by kernel_rfl)
theorem aid(e q:Sl)(D:Db):eG (au e q D) 0 4=some (au e q D):=by kernel_rfl
theorem rH(e q:Sl)(D:Db)(c:Array Value)(t:TypeId)(w:World):∃W,(((w.alloc (.cells (au e q D) 32)).alloc (.cells c t)).alloc (.cells #[.string ⟨#[]⟩,.int .i64 0,.slice none 0 0,.slice none 0 0] 32))=W∧Below w.heap.size w W∧W.heap[w.heap.size]?=some (.cells (au e q D) 32)∧W.heap[w.heap.size+1]?=some (.cells c t)∧aQ W (w.heap.size+1+1) 0 4=true∧W.heap.size=w.heap.size+1+1+1:=by
 refine⟨_,rfl,(((Below.refl _ _).alloc (Nat.le_refl _) _).alloc (by simp) _).alloc (by simp;omega) _,by rw[Below.heap_alloc _ _ _ (by simp;omega)];exact jQ w _ _,?_,by simp[go_sem],by simp⟩
 rw[Below.heap_alloc _ _ _ (by simp)];have:=World.alloc_heap_new (w.alloc (.cells (au e q D) 32)) (.cells c t);simpa using this
theorem aie(a b:ByteArray):qh a b=(Op.bytesLess a.toList b.toList || (a.toList == b.toList)):=rfl
theorem Vw{w W V:World}{e q s1:Sl}{D:Db}{L:List ah}{n:Nat}(hb:Below W.heap.size W V)(hx2:W.heap[w.heap.size]?=some (.cells (au e q D) 32))(hz:aQ W (w.heap.size+1+1) 0 4=true)(hW:w.heap.size+1+1<W.heap.size)(hL:L.length=n) :
  row? ((V.setCell ⟨w.heap.size,3,none⟩ (.slice s1.a n s1.cap)).setCell ⟨w.heap.size,1,none⟩ (.int .i64 (D.ay+1))) w.heap.size 0 4=some (au e s1 {D with ax:=L,ay:=D.ay+1})∧aQ ((V.setCell ⟨w.heap.size,3,none⟩ (.slice s1.a n s1.cap)).setCell ⟨w.heap.size,1,none⟩ (.int .i64 (D.ay+1))) (w.heap.size+1+1) 0 4=true:=by
 subst hL
 have hne:w.heap.size+1+1≠w.heap.size:=by omega
 exact⟨(bP (dF (o:=1) (.int .i64 (D.ay+1)) (dF (o:=3) (.slice s1.a L.length s1.cap) (aJ hb hx2)))).trans (by kernel_rfl),(lQ hne).trans ((lQ hne).trans ((gI hb _ 0 4 hW).trans hz))⟩
theorem aif(e q:Sl)(D:Db)(p:ah)(w:World)(hs:p.name.size≤lim)(hv:dL p=false):Calls Tryz.prog 39 #[.agg (au e q D),.agg (aG p)] w fun x w'=>x=.returned (.tuple #[.agg (au e q D),.int .i64 2])∧Below w.heap.size w w':=by
 obtain⟨W,dD,hB,hx2,hx3,hz,hW⟩:=rH e q D (aG p) 50 w
 replace dD:=Lib.hid dD
 go_enter Tryz.func39,Tryz.ntmps39
 go_wp2_with fail
 rw[dD.out];clear dD
 refine(Q4 _ _ hs).mono ?_
 rintro x w1 ⟨rfl,hb1⟩
 have hy2:=aJ hb1 hx2
 have hy3:=aJ hb1 hx3
 have hz1:=(gI hb1 (w.heap.size+1+1) 0 4 (by omega)).trans hz
 have hs1:=hb1.size
 obtain⟨hc,hf,hr,hlt⟩:=aC hy2
 obtain⟨hc3,hf3,hr3,hlt3⟩:=aC hy3
 have hne:w.heap.size+1+1≠w.heap.size:=by omega
 rw[hv]
 have hlt4:w.heap.size+1+1<w1.heap.size:=by omega
 go_wp2_with fail
 have hrow:=iT (w:=w1) (jH e q D) hz1
 exact bodyPost_ret (kQ (by rfl) Tryz.underlying32 rfl (by kernel_rfl) rfl hrow) rfl ⟨rfl,Go.WW.Below.putRow (ag hB hb1) (by omega)⟩
theorem Vx(e q:Sl)(D:Db)(p:ah)(w:World)(hs:p.name.size≤lim)(hv:dL p=true)(hp:iU w q.a D.ax)(hn:D.ax.length<64)(hs0:0≤D.ay)(hs1:D.ay<1000000)(at_:Int)(hi:idxOf (fun z=>decide (z.name=p.name)) D.ax=at_):Calls Tryz.prog 39 #[.agg (au e q D),.agg (aG p)] w (LH e {D with ax:=fC p at_ 0 false D.ax,ay:=D.ay+1} 0 w):=by
 obtain⟨W,dD,hB,hx2,hx3,hz,hW⟩:=rH e q D (aG p) 50 w
 replace dD:=Lib.hid dD
 have Ha:(D.ay+1).tmod 4611686018427387904=D.ay+1:=Int.tmod_eq_of_lt (by omega) (by omega)
 go_enter Tryz.func39,Tryz.ntmps39
 go_wp2_with fail
 rw[dD.out];clear dD
 refine(Q4 _ _ hs).mono ?_
 rintro x w1 ⟨rfl,hb1⟩
 have hy2:=aJ hb1 hx2
 have hy3:=aJ hb1 hx3
 have hz1:=(gI hb1 (w.heap.size+1+1) 0 4 (by omega)).trans hz
 have hs1:=hb1.size
 obtain⟨hc,hf,hr,hlt⟩:=aC hy2
 obtain⟨hc3,hf3,hr3,hlt3⟩:=aC hy3
 have hne:w.heap.size+1+1≠w.heap.size:=by omega
 rw[hv]
 go_wp2_with fail
 refine(Ak _ _ _ _ _ (hp.later (ag hB hb1))).mono ?_
 rintro x w2 ⟨rfl,hb2⟩
 rw[hi]
 have dW:=ag hb1 hb2
 clear hc hf hr hlt hc3 hf3 hr3 hlt3 hz1 hy2 hy3 hs1
 have hy2:=aJ dW hx2
 have hy3:=aJ dW hx3
 obtain⟨hc,hf,hr,hlt⟩:=aC hy2
 obtain⟨hc3,hf3,hr3,hlt3⟩:=aC hy3
 have aih:¬(64:Int)≤(D.ax.length:Int):=by omega
 obtain⟨qa,qc⟩:=q
 by_cases hat:at_<0
 all_goals
  go_wp2_with fail
  go_loopw [7,8,9] (fun ov dv iv wr=>∃(k m:Nat) (dn:Bool) (so:Sl) (R:List ah),k≤D.ax.length∧m≤2*k∧iv=.int .i64 k∧dv=.bool dn∧ov=.slice so.a m so.cap∧Hid (R.length=m)∧Hid (yM p at_ D.ax R k dn)∧Below W.heap.size W wr∧Go.WW.Own wr W.heap.size 50 10 so (R.map aG)) (fun _ _ iv _=>D.ax.length-(intOf iv).toNat)
  case atStart=>exact⟨0,0,false,⟨none,0⟩,[],Nat.zero_le _,by omega,rfl,rfl,rfl,rfl,aia _ _ _,dW,Go.WW.Own.nil _ _ _ _⟩
  case round=>
   obtain⟨k,m,dn,s1,R,hk,hmk,rfl,rfl,rfl,hlr,hI,hbr,hO⟩:=hrel
   clear hc hf hr hlt hc3 hf3 hr3 hlt3 hy2 hy3
   have hy2:=aJ hbr hx2
   have hy3:=aJ hbr hx3
   obtain⟨hc,hf,hr,hlt⟩:=aC hy2
   obtain⟨hc3,hf3,hr3,hlt3⟩:=aC hy3
   have hBr:=ag hB hbr
   by_cases hkl:k<D.ax.length
   ·obtain⟨b,o,rfl,hb⟩:=(aV.addr hp).resolve_left (by omega)
    have hki:(k:Int)<(D.ax.length:Int):=by omega
    have hrow0:=(hp.at k hkl).1
    have hbw:b<wr.heap.size:=Nat.lt_of_lt_of_le hb hBr.size
    have hcell:wr.cell? ⟨b,o+k*10,none⟩=some (.string D.ax[k].name):=by rw[hBr.cell (p:=⟨b,o+k*10,none⟩) hb];have:=gJ hrow0 0 (by omega);simpa[go_sem]using this
    have HS:=aib hI.out hkl
    have hl3:=aie p.name D.ax[k].name
    generalize hxk:D.ax[k]=x at *
    cases hkq:((k:Int) != at_)
    all_goals
     cases dn
     case' false=>
      cases h1:Op.bytesLess p.name.toList x.name.toList
      case' false=>cases h2:(p.name.toList == x.name.toList)
     all_goals
      first|(rw[h1,h2]at hl3)|(rw[h1]at hl3)|skip
      simp[hkq,hl3]at HS
      have HI:=Lib.hid HS
      clear HS hl3
      go_wp2_with fail
      refine dO (Below.refl _ wr) (by kernel_rfl) (by kernel_rfl) ?_
      repeat (go_big_quiet_step (fail))
      refine wpQuiet_nil ?_
      intro u1 hb5
      have iH:=ag hbr hb5
      clear hc hf hr hlt hc3 hf3 hr3 hlt3 hcell
      obtain⟨hc,hf,hr,hlt⟩:=aC (aJ iH hx2)
      obtain⟨hc3,hf3,hr3,hlt3⟩:=aC (aJ iH hx3)
      have Vy:=(ig ((ag hB iH).block b hb) (o+k*10) 10).trans hrow0
      have Vz:=Nat.lt_of_lt_of_le hb (ag hB iH).size
      have hown1:Go.WW.Own u1 W.heap.size 50 10 s1 (R.map aG):=hO.kept fun g hg=>hb5.block g (hO.base hg).2
      go_wp2_with (first
       |(have wZ:Go.WW.Own (u1.alloc (.cells (aG p) 50)) W.heap.size 50 10 s1 _:=hown1.kept (fun g hg=>Below.heap_alloc _ _ _ (hown1.base hg).2);at_builtin;refine gp rfl (.tmp 47) (.tmp 49) _ rfl Dw (s:=s1) rfl (by have:=hlr.out;simp[this]) wZ rfl rfl (cO.new _ (aG p) _ _ (by simp[go_sem]) (by simp[go_sem])) (by have:=hlr.out;simp[this];omega) (by have h9:=iH.size;simp;omega) ?_;intro s1 u1 hown1 hg1 Dx;have hbw2:=tJ wZ (aj iH _) hg1;have iH:=hbw2;clear Dx hg1;obtain⟨gc,gf,gr,gl⟩:=aC (aJ iH hx2);have Vy:=(ig ((ag hB iH).block b hb) (o+k*10) 10).trans hrow0;have Vz:=Nat.lt_of_lt_of_le hb (ag hB iH).size)
       |(have wZ:Go.WW.Own (u1.alloc (.cells (aG x) 50)) W.heap.size 50 10 s1 _:=hown1.kept (fun g hg=>Below.heap_alloc _ _ _ (hown1.base hg).2);at_builtin;refine gp rfl (.tmp 54) (.tmp 60) _ rfl Dw (s:=s1) rfl (by have:=hlr.out;simp[this]) wZ rfl rfl (cO.new _ (aG x) _ _ (by simp[go_sem]) (by simp[go_sem])) (by have:=hlr.out;simp[this];omega) (by have h9:=iH.size;simp;omega) ?_;intro s1 u1 hown1 hg1 Dx;have hbw2:=tJ wZ (aj iH _) hg1;have iH:=hbw2;clear Dx hg1;obtain⟨gc,gf,gr,gl⟩:=aC (aJ iH hx2);have Vy:=(ig ((ag hB iH).block b hb) (o+k*10) 10).trans hrow0;have Vz:=Nat.lt_of_lt_of_le hb (ag hB iH).size))
      go_roundw
      case rel=>first|exact⟨k+1,_,_,s1,_,by omega,by omega,by go_num,rfl,rfl,Lib.hid (by have:=hlr.out;simp[this]),HI.out,iH,by simpa using hown1⟩|((repeat apply Exists.intro);exact⟨⟨k+1,_,_,s1,_,by omega,by omega,by go_num,rfl,rfl,Lib.hid (by have:=hlr.out;simp[this]),HI.out,iH,by simpa using hown1⟩,rfl⟩)
      case measure=>simp[intOf];omega
   ·have HE:=aic hI.out (show D.ax.length≤k by omega)
    have hlim:∀z∈fC p at_ 0 false D.ax,z.name.size≤lim:=fun z hz=>by
     rcases LG _ _ _ _ _ z hz with rfl|h
     ·exact hs
     ·obtain⟨i',hi',rfl⟩:=List.mem_iff_getElem.1 h;obtain⟨_,_,_,_,h9⟩:=hp.get i' hi';exact h9
    have hll:=GZ p at_ D.ax 0 false
    have hown1:=hO
    have iH:=hbr
    cases dn
    case' false=>
     have Dy:fC p at_ 0 false D.ax=R++[p]:=by simpa using HE
     clear HE
     go_wp2_with (have wZ:Go.WW.Own (wr.alloc (.cells (aG p) 50)) W.heap.size 50 10 s1 _:=hown1.kept (fun g hg=>Below.heap_alloc _ _ _ (hown1.base hg).2);at_builtin;refine gp rfl (.tmp 64) (.tmp 66) _ rfl Dw (s:=s1) rfl (by have:=hlr.out;simp[this]) wZ rfl rfl (cO.new _ (aG p) _ _ (by simp[go_sem]) (by simp[go_sem])) (by have:=hlr.out;simp[this];omega) (by have h9:=iH.size;simp;omega) ?_;intro s1 u1 hown1 hg1 Dx;have hbw2:=tJ wZ (aj iH _) hg1;have iH:=hbw2;clear Dx hg1;clear hc hf hr hlt hc3 hf3 hr3 hlt3;have hwl:=iH.size;obtain⟨hc,hf,-,hlt⟩:=aC (aJ iH hx2);have HO:Go.WW.Own u1 W.heap.size 50 10 s1 ((R++[p]).map aG):=(by simpa using hown1);obtain⟨Dz,hcp⟩:=Vw (s1:=s1) (L:=R++[p]) (n:=m+1) iH hx2 hz (by omega) (by simp[hlr.out]))
     have hrow:=iT (jH e s1 {D with ax:=R++[p],ay:=D.ay+1}) hcp
    case' true=>
     have Dy:fC p at_ 0 false D.ax=R:=by simpa using HE
     clear HE hr
     have HO:=hO
     have hwl:=iH.size
     obtain⟨Dz,hcp⟩:=Vw (s1:=s1) iH hx2 hz (by omega) hlr.out
     go_wp2_with fail
     have hrow:=iT (jH e s1 {D with ax:=R,ay:=D.ay+1}) hcp
    all_goals
     refine bodyPost_ret (kQ (by rfl) Tryz.underlying32 rfl (by kernel_rfl) rfl hrow) rfl ⟨s1,by rw[Dy];rfl,Go.WW.Below.putRow (((ag hB iH).setCell (by simp) _).setCell (by simp) _) (by omega),?_⟩
     rw[Dy]
     refine fun y hy=>⟨iU.ed (HO.kept fun g hg=>?_) (by have h9:=hll;rw[Dy]at h9;exact Nat.le_trans h9 (by unfold lim;omega)) (by rw[←Dy];exact hlim),by have h9:=Go.WW.Own.cap HO;rw[List.length_map]at h9;exact h9⟩
     have hg1:=HO.base hg
     rw[hy g ⟨by omega,by rw[kG];simp only[World.setCell,Array.size_modify];omega⟩,iD (by omega),Below.heap_setCell _ _ _ _ (show g≠w.heap.size by omega),Below.heap_setCell _ _ _ _ (show g≠w.heap.size by omega)]
end Go.Proofs.YtfieenjdcpjmgaaGreatDoor
