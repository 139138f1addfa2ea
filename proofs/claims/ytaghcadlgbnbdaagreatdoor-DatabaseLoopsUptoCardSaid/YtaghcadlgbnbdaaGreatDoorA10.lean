/- A part of the proof. -/
import Derived.Test.YtaghcadlgbnbdaaGreatDoorA09
import Derived.Test.YtaghcadlgbnbdaaGreatDoorA05
import Derived.Test.YtaghcadlgbnbdaaGreatDoorA01
import Derived.Carry
import Derived.Deep.DeepHandedRow
import Derived.WalkKit
set_option maxRecDepth 2000000
set_option maxHeartbeats 16000000
namespace Go.WW
open Go.RowKit
def Jp(W0 w:World)(s:Sl):Nat→Prop:=fun j=>(W0.heap.size≤j∧j<w.heap.size)∨(j=w.heap.size∨j=w.heap.size+1)∨some j=s.blk
structure O9(W0 w W3:World)(T:TypeId)(s2:Sl)(rK:List (Array Value))(L:List aW)(k:Nat)(R:List (Array Value))(wr:World):Prop where
 but:But (fun j=>some j=s2.blk) W3 wr
 own:∃b2,w.heap.size+2≤b2∧Own wr b2 T 5 s2 R∧∀g,s2.blk=some g→g<W3.heap.size
 len:R.length=L.length
 done:∀j (h:j<R.length) (h':j<L.length),j<k→∃s:Sl,R[j]=aV s L[j]∧∀y,But (Jp W0 w s2) wr y→uM (span w.heap.size wr.heap.size) y s.a L[j].keys
 rest:∀j (h:j<R.length) (h':j<rK.length),k≤j→R[j]=rK[j]
structure Pg(W0 w V:World)(base:Nat)(T:TypeId)(s2 s3:Sl)(rk:List (Array Value))(L:List Key)(q:Nat)(R:List (Array Value))(wr:World):Prop where
 but:But (fun j=>some j=s3.blk) V wr
 own:Own wr base T 3 s3 R
 len:R.length=L.length
 done:∀j (h:j<R.length) (h':j<L.length),j<q→∃s:Sl,R[j]=bY s L[j]∧∀y,But (fun i=>Jp W0 w s2 i∨some i=s3.blk) wr y→xU (span w.heap.size wr.heap.size) y s.a L[j].bytes
 rest:∀j (h:j<R.length) (h':j<rk.length),q≤j→R[j]=rk[j]
theorem xU.mono{S T:Nat→Prop}{w:World}{a:Option Addr}{l:List UInt8}(h:xU S w a l)(hS:∀b,S b→T b):xU T w a l:=⟨h.1,h.2.mono hS⟩
end Go.WW
namespace Go.Proofs.YtaghcadlgbnbdaaGreatDoor
open Go.RowKit Go.WW
def akW(W0:World)(d:Entry)(w:World)(z:Ending)(w':World):Prop:=
 ∃r',z=.returned (.agg (ae r' d))∧Below w.heap.size w w'∧∀y,But (fun k=>W0.heap.size≤k∧k<w.heap.size) w' y→pz (span w.heap.size w'.heap.size) y r' d
theorem akX(W0:World)(r:aI)(d:Entry)(w:World)(hW:Below W0.heap.size W0 w)(he:bz W0 r d):Calls Tryz.prog 34 #[.agg (ae r d)] w (akW W0 d w):=by
 have hW0:=hW.size
 have n0:d.name.parts.length≤4294967000:=he.name.1.1
 have n1:d.aliases.length≤4294967000:=he.aliases.1
 have n2:d.keys.length≤4294967000:=he.keys.1
 obtain⟨rP,lP,sP,qP⟩:=dJ.src he.name.1 Vb
 obtain⟨rA,lA,sA,qA⟩:=aO.src he.aliases DW
 obtain⟨rK,lK,sK,qK⟩:=aO.src he.keys akN
 have LP:=Lib.hid lP
 have LA:=Lib.hid lA
 have LK:=Lib.hid lK
 have SP:=Lib.hid sP
 have SA:=Lib.hid sA
 have SK:=Lib.hid sK
 have QP:=Lib.hid qP
 have QA:=Lib.hid qA
 have QK:=Lib.hid qK
 have HE:=Lib.hid he
 clear lP lA lK sP sA sK qP qA qK he
 go_enter Tryz.func34,Tryz.ntmps34
 go_step
 apply YE (M:=fun V=>Below w.heap.size w V∧V.heap[w.heap.size]?=some (.cells (ae r d) 32)∧aJ V (w.heap.size+1) 0 17=true∧w.heap.size+2≤V.heap.size)
 case h1=>
  go_wp2_with fail
  rw[←Bh]
  exact⟨rfl,⟨aC (aC (Below.refl _ w) _) _,lS w _ _,by simp[go_sem],by simp⟩⟩
 rintro V0 ⟨hB0,hx0,hz0,hs0⟩
 iterate 3 go_step
 obtain⟨hc,hf,hr,hl⟩:=ai hx0
 apply BH (M:=fun(s:Sl) V=>Go.WW.Own V V0.heap.size 9 1 s rP∧V.heap[w.heap.size]?=some (.cells (ae {r with parts:=s} d) 32)∧But (·=w.heap.size) V0 V)
 case h1=>
  have HS:=Lib.hid ((SP.out.later hW).later (ag hB0 (aC (Below.refl _ V0) (.cells #[] 9))))
  have hown:=Own.empty V0 9 1
  go_wp2_with (
    at_builtin;go_loud (refine gK rfl (.tmp 5) (.tmp 8) _ rfl Vd (n:=0) (s:=⟨some ⟨V0.heap.size,0,none⟩,0⟩) rfl rfl hown rfl LP.out.symm HS.out (by rw[LP.out];simp;omega) (by simp) ?_);intro s3 w3 hown3 hg3 fQ
    have hb3:=EZ hown (aC (Below.refl _ V0) _) hg3
    have hx3:=aA hb3 hx0
    obtain⟨hc3,hf3,hr3,hl3⟩:=ai hx3)
  obtain⟨q1,q2,q3⟩:=O6 (o:=0) hown3 hb3 hx0 (.slice s3.a d.name.parts.length s3.cap)
  rw[akP]at q2
  exact⟨s3,rfl,⟨q1,q2,q3⟩⟩
 rintro s0 V1 ⟨ho1,hx1,Jq⟩
 have hB1:Below w.heap.size w V1:=((But.of_below (S:=fun _=>False) hB0).past Jq (fun j hj=>by omega)).below (Nat.le_refl _) (fun _ h=>h.elim)
 have hg0:∀g,s0.blk=some g→w.heap.size+2≤g∧g<V1.heap.size:=fun g hg=>⟨Nat.le_trans hs0 (ho1.base hg).1,(ho1.base hg).2⟩
 have hs1:V0.heap.size≤V1.heap.size:=Jq.size
 have hz1:aJ V1 (w.heap.size+1) 0 17=true:=by rw[tJ (Jq.block _ (by omega) (by omega))];exact hz0
 clear hc hf hr hl hx0 hz0
 generalize hr1:({r with parts:=s0}:aI)=r1 at *
 obtain⟨hc,hf,hr,hl⟩:=ai hx1
 iterate 3 go_step
 apply BH (M:=fun(s:Sl) V=>Go.WW.Own V V1.heap.size 25 2 s rA∧V.heap[w.heap.size]?=some (.cells (ae {r1 with aliases:=s} d) 32)∧But (·=w.heap.size) V1 V)
 case h1=>
  have HS:=Lib.hid ((SA.out.later hW).later (ag hB1 (aC (Below.refl _ V1) (.cells #[] 25))))
  have hown:=Own.empty V1 25 2
  have ha1:r1.aliases=r.aliases:=by rw[←hr1]
  rw[←ha1]at HS
  clear ha1
  go_wp2_with (
    at_builtin;refine gK rfl (.tmp 12) (.tmp 14) _ rfl Bd (n:=0) (s:=⟨some ⟨V1.heap.size,0,none⟩,0⟩) rfl rfl hown rfl LA.out.symm HS.out (by rw[LA.out];simp;omega) (by simp) ?_;intro s3 w3 hown3 hg3 fQ
    have hb3:=EZ hown (aC (Below.refl _ V1) _) hg3
    have hx3:=aA hb3 hx1
    obtain⟨hc3,hf3,hr3,hl3⟩:=ai hx3)
  obtain⟨q1,q2,q3⟩:=O6 (o:=2) hown3 hb3 hx1 (.slice s3.a d.aliases.length s3.cap)
  rw[akQ]at q2
  exact⟨s3,rfl,⟨q1,q2,q3⟩⟩
 rintro s1 V2 ⟨ho2,hx2,E5⟩
 have hB2:Below w.heap.size w V2:=((But.of_below (S:=fun _=>False) hB1).past E5 (fun j hj=>by omega)).below (Nat.le_refl _) (fun _ h=>h.elim)
 have hg1:∀g,s1.blk=some g→w.heap.size+2≤g∧g<V2.heap.size:=fun g hg=>⟨by have:=(ho2.base hg).1;omega,(ho2.base hg).2⟩
 have hs2:V1.heap.size≤V2.heap.size:=E5.size
 have hz2:aJ V2 (w.heap.size+1) 0 17=true:=by rw[tJ (E5.block _ (by omega) (by omega))];exact hz1
 have YH:=ho1.but E5 (fun g hg=>by have:=hg0 g hg;omega)
 have hk1:=Lib.hid (show r1.keys=r.keys by rw[←hr1])
 clear hc hf hr hl hx1 hz1
 generalize hr2:({r1 with aliases:=s1}:aI)=r2 at *
 obtain⟨hc,hf,hr,hl⟩:=ai hx2
 iterate 3 go_step
 apply BH (M:=fun(s:Sl) V=>Go.WW.Own V V2.heap.size 61 5 s rK∧V.heap[w.heap.size]?=some (.cells (ae {r2 with keys:=s} d) 32)∧But (·=w.heap.size) V2 V)
 case h1=>
  have HS:=Lib.hid ((SK.out.later hW).later (ag hB2 (aC (Below.refl _ V2) (.cells #[] 61))))
  have hown:=Own.empty V2 61 5
  have ha1:r2.keys=r.keys:=by rw[←hr2];exact hk1.out
  rw[←ha1]at HS
  clear ha1
  go_wp2_with (
    at_builtin;refine gK rfl (.tmp 17) (.tmp 19) _ rfl Vf (n:=0) (s:=⟨some ⟨V2.heap.size,0,none⟩,0⟩) rfl rfl hown rfl LK.out.symm HS.out (by rw[LK.out];simp;omega) (by simp) ?_;intro s3 w3 hown3 hg3 fQ
    have hb3:=EZ hown (aC (Below.refl _ V2) _) hg3
    have hx3:=aA hb3 hx2
    obtain⟨hc3,hf3,hr3,hl3⟩:=ai hx3)
  obtain⟨q1,q2,q3⟩:=O6 (o:=5) hown3 hb3 hx2 (.slice s3.a d.keys.length s3.cap)
  rw[akR]at q2
  exact⟨s3,rfl,⟨q1,q2,q3⟩⟩
 rintro s2 V3 ⟨ho3,hx3,uq⟩
 have hB3:Below w.heap.size w V3:=((But.of_below (S:=fun _=>False) hB2).past uq (fun j hj=>by omega)).below (Nat.le_refl _) (fun _ h=>h.elim)
 have hg2:∀g,s2.blk=some g→V2.heap.size≤g∧g<V3.heap.size:=fun g hg=>ho3.base hg
 have hs3:V2.heap.size≤V3.heap.size:=uq.size
 have hz3:aJ V3 (w.heap.size+1) 0 17=true:=by rw[tJ (uq.block _ (by omega) (by omega))];exact hz2
 have YI:=YH.but uq (fun g hg=>by have:=hg0 g hg;omega)
 have YJ:=ho2.but uq (fun g hg=>by have:=hg1 g hg;omega)
 clear hc hf hr hl hx2 hz2 YH ho1 ho2
 generalize hr3:({r2 with keys:=s2}:aI)=r3 at *
 have HR3:=Lib.hid (show r3.parts=s0∧r3.aliases=s1∧r3.keys=s2∧r3.targets=r.targets∧r3.bH=r.bH∧r3.history=r.history by subst hr3 hr2 hr1;exact⟨rfl,rfl,rfl,rfl,rfl,rfl⟩)
 clear hr3 hr2 hr1 hk1
 have Ph:=Lib.hid hg0
 have Pj:=Lib.hid hg1
 have HG2:=Lib.hid hg2
 have HO1:=Lib.hid YI
 have HO2:=Lib.hid YJ
 have HB3:=Lib.hid hB3
 have YK:=Lib.hid hx3
 have HZ3:=Lib.hid hz3
 clear hg0 hg1 hg2 YI YJ hB3 hx3 hz3 Jq E5 uq hB0 hB1 hB2
 have hI:O9 W0 w V3 61 s2 rK d.keys 0 rK V3:=⟨But.refl _ _,⟨V2.heap.size,by omega,ho3,fun g hg=>(HG2.out g hg).2⟩,LK.out,fun j _ _ h=>absurd h (Nat.not_lt_zero _),fun j _ _ _=>rfl⟩
 clear ho3
 go_wp2_with fail
 go_loopw [3] (fun iv wr=>∃(k:Nat) (R:List (Array Value)),k≤d.keys.length∧iv=.int .i64 k∧O9 W0 w V3 61 s2 rK d.keys k R wr) (fun iv _=>d.keys.length-(intOf iv).toNat)
 case atStart=>exact⟨0,rK,Nat.zero_le _,rfl,hI⟩
 case round=>
  clear hI
  obtain⟨w1,rfl⟩:∃w1,w1=wr:=⟨_,rfl⟩
  obtain⟨k,R,hk,rfl,hI⟩:=hrel
  obtain⟨b2,hb2,Jr,arO⟩:=hI.own
  have o6:V3.heap.size≤w1.heap.size:=hI.but.size
  have arP:=HB3.out.size
  have hxr:w1.heap[w.heap.size]?=some (.cells (ae r3 d) 32):=(hI.but.block _ (Array.getElem?_eq_some_iff.1 YK.out).1 (fun h=>by have:=HG2.out _ h.symm;omega)).trans YK.out
  have hBr:Below w.heap.size w w1:=((But.of_below (S:=fun _=>False) HB3.out).past hI.but (fun j hj=>by have:=HG2.out _ hj.symm;omega)).below (Nat.le_refl _) (fun _ h=>h.elim)
  obtain⟨hc,hf,hr,hl⟩:=ai hxr
  have h5:=(hc 5).trans (DU r3 d)
  rw[HR3.out.2.2.1]at h5
  by_cases hlt:k<d.keys.length
  ·clear hc hf hr
   have hkR:k<R.length:=by rw[hI.len];exact hlt
   have YL:k<rK.length:=by rw[LK.out];exact hlt
   obtain⟨g2,ha2,hbk2,YM,hrow2,hcp2⟩:=Jr.at_ k hkR
   have hRk:=hI.rest k hkR YL (Nat.le_refl _)
   obtain⟨kk,t,hkk,hrt,hst⟩:=QK.out k YL
   rw[List.getElem?_eq_getElem hlt]at hkk
   cases hkk
   have Pm:=hRk.trans hrt
   rw[Pm]at hrow2
   obtain⟨rk,lk,sk,qk⟩:=aO.src hst.1 akO
   rw[ha2]at h5
   have HA2:=Lib.hid ha2
   clear ha2
   have hc1:=gp hrow2 1 (by omega)
   rw[DT]at hc1
   have hf1:=xR hcp2 (k*5+1)
   have nk:d.keys[k].keys.length≤4294967000:=hst.1.1
   have HI:=Lib.hid hI
   have Oz:=Lib.hid hbk2
   have HRT:=Lib.hid Pm
   have YN:=Lib.hid Jr
   have Js:=Lib.hid lk
   have SKK:=Lib.hid sk
   have QKK:=Lib.hid qk
   have zH:=Lib.hid hBr
   have hgw:w.heap.size+2≤g2∧g2<V3.heap.size:=by have:=HG2.out _ hbk2;omega
   have arQ:g2≠w.heap.size:=by omega
   clear hI hbk2 hRk hrt Pm Jr lk sk qk hBr hcp2 hrow2 hst
   go_wp2_with fail
   apply BH (M:=fun(s:Sl) V=>Go.WW.Own V w1.heap.size 64 3 s rk∧But (fun j=>some j=s2.blk) w1 V∧Go.WW.Own V b2 61 5 s2 (R.set k (aV s d.keys[k])))
   case h1=>
    have HO:=Lib.hid (Own.empty w1.drew 64 3)
    have HS:=Lib.hid ((SKK.out.later hW).later (ag zH.out (aC (Below.refl _ w1).drew (.cells #[] 64))))
    refine YG (mX (fun _=>False) w1) eU (by kernel_rfl) (by kernel_rfl) (by kernel_rfl) ⟨⟨World.drew w1,(But.refl _ _).drew⟩,rfl⟩ ?_
    repeat (first|(refine aP (by rfl) ?_)|(refine aN (by rfl) (by rfl) (fun K hK=>?_);go_big_quiet_op;refine hK _ ?_;clear hK K))
    refine aS (by rfl) (by rfl) (fun K hK=>?_)
    go_wp2_with fail
    refine hK _ _ (bI (But.of_below (aC (Below.refl _ w1).drew _))) ?_
    clear hK K
    repeat (first|(refine aP (by rfl) ?_)|(refine aN (by rfl) (by rfl) (fun K hK=>?_);go_big_quiet_op;refine hK _ ?_;clear hK K))
    refine aS (by rfl) (by rfl) (fun K hK=>?_)
    refine zG (.tmp 32) (.tmp 38) _ rfl Ve (n:=0) (s:=⟨some ⟨w1.heap.size,0,none⟩,0⟩) rfl rfl HO.out rfl Js.out.symm HS.out (by rw[Js.out];simp;omega) (by simp) ?_
    intro s3 w3 hown3 hg3 fQ
    have hb3:Below w1.heap.size w1 w3:=(aC (Below.refl _ w1).drew (.cells #[] 64)).grown hg3 (by simp) (fun k' e'=>by cases e';exact Nat.le_refl _)
    go_wp2_with fail
    refine hK _ _ (bI (But.of_below hb3)) ?_
    clear hK K
    repeat (first|(refine aP (by rfl) ?_)|(refine aN (by rfl) (by rfl) (fun K hK=>?_);go_big_quiet_op;refine hK _ ?_;clear hK K))
    refine bW ?_
    unfold vZ
    simp only[List.getLast?_cons_cons,List.getLast?_singleton]
    have hc3:=(hb3.cell (p:=⟨g2,k*5+1,none⟩) YM).trans hc1
    have hf3:=(hb3.frozen (p:=⟨g2,k*5+1,none⟩) YM).trans hf1
    have hown4:=YN.out.kept (w':=w3) (fun g hg=>hb3.block g (YN.out.base hg).2)
    have hown5:=hown4.setCell HA2.out k 1 hkR (by omega) (.slice s3.a d.keys[k].keys.length s3.cap)
    rw[HRT.out,akS]at hown5
    have hown6:Go.WW.Own (w3.setCell ⟨g2,k*5+1,none⟩ (.slice s3.a d.keys[k].keys.length s3.cap)) w1.heap.size 64 3 s3 rk:=by
     rw[List.nil_append]at hown3
     exact hown3.kept fun g hg=>Below.heap_setCell _ _ _ _ (show g≠g2 by have:=(hown3.base hg).1;simp at this;omega)
    have E8:But (fun j=>some j=s2.blk) w1 (w3.setCell ⟨g2,k*5+1,none⟩ (.slice s3.a d.keys[k].keys.length s3.cap)):=rY (But.of_below hb3) (.inl Oz.out.symm)
    clear hown3 hown4
    have H5:=Lib.hid hown5
    have H6:=Lib.hid hown6
    have H7:=Lib.hid E8
    clear hown5 hown6 E8
    go_wp2_with fail
    exact⟨s3,rfl,⟨H6.out,H7.out,H5.out⟩⟩
   rintro s3 V ⟨Pn,Jt,Po⟩
   have OA:w1.heap.size≤V.heap.size:=Jt.size
   have YO:V.heap[w.heap.size]?=some (.cells (ae r3 d) 32):=(Jt.block _ hl (fun h=>by have:=HG2.out _ h.symm;omega)).trans hxr
   have IY:∀g,s3.blk=some g→w1.heap.size≤g∧g<V.heap.size:=fun g hg=>Pn.base hg
   obtain⟨g2',YP,-,ak3,Pq,ak4⟩:=Po.at_ k (by rw[List.length_set];exact hkR)
   rw[HA2.out]at YP
   cases YP
   rw[List.getElem_set_self]at Pq
   have YQ:=gp Pq 1 (by omega)
   rw[DT]at YQ
   clear hc1 hf1 h5 Pq ak4
   obtain⟨hc,-,-,hlV⟩:=ai YO
   have YR:=(hc 5).trans (DU r3 d)
   rw[HR3.out.2.2.1,HA2.out]at YR
   clear hc
   have hJ:Pg W0 w V w1.heap.size 64 s2 s3 rk d.keys[k].keys 0 rk V:=⟨But.refl _ _,Pn,Js.out,fun j _ _ h=>absurd h (Nat.not_lt_zero _),fun j _ _ _=>rfl⟩
   have Pv:=Lib.hid Jt
   have HOV:=Lib.hid Po
   have uN:=Lib.hid IY
   clear Jt Po IY Pn hxr YO
   iterate 3 go_step
   go_wp2_with fail
   go_loopw [4] (fun jv wr=>∃(q:Nat) (R3:List (Array Value)),q≤d.keys[k].keys.length∧jv=.int .i64 q∧Pg W0 w V w1.heap.size 64 s2 s3 rk d.keys[k].keys q R3 wr) (fun jv _=>d.keys[k].keys.length-(intOf jv).toNat)
   case atStart=>exact⟨0,rk,Nat.zero_le _,rfl,hJ⟩
   case round=>
    clear hJ
    obtain⟨q,R3,hq,rfl,hJ⟩:=hrel
    have hsj:V.heap.size≤wr.heap.size:=hJ.but.size
    have h5:=(hJ.but.cell (o:=5) hlV (fun h=>by have:=uN.out _ h.symm;omega)).trans YR
    have hc1:=(hJ.but.cell (o:=k*5+1) ak3 (fun h=>by have:=uN.out _ h.symm;omega)).trans YQ
    have hlj:w.heap.size<wr.heap.size:=by omega
    have hgj:g2<wr.heap.size:=by omega
    have Px:=hJ.own
    by_cases Py:q<d.keys[k].keys.length
    ·have Pz:q<R3.length:=by rw[hJ.len];exact Py
     have YS:q<rk.length:=by rw[Js.out];exact Py
     obtain⟨g3,uJ,Ju,YT,hrow3,BI⟩:=Px.at_ q Pz
     have YU:=hJ.rest q Pz YS (Nat.le_refl _)
     obtain⟨kk,t3,hkk,YV,hst3⟩:=QKK.out q YS
     rw[List.getElem?_eq_getElem Py]at hkk
     cases hkk
     have PD:=YU.trans YV
     rw[PD]at hrow3
     obtain⟨rb,lb,sb,qb⟩:=dJ.src hst3 Nu
     have hc2:=gp hrow3 2 (by omega)
     rw[Ha]at hc2
     have hf2:=xR BI (q*3+2)
     have nb:d.keys[k].keys[q].bytes.length≤4294967000:=hst3.1
     have arR:w1.heap.size≤g3:=(uN.out _ Ju).1
     have arS:g3<V.heap.size:=(uN.out _ Ju).2
     have HJ:=Lib.hid hJ
     have ak7:=Lib.hid Ju
     have ak8:=Lib.hid PD
     have YW:=Lib.hid Px
     have LB:=Lib.hid lb
     have SB:=Lib.hid sb
     have QB:=Lib.hid qb
     rw[uJ]at hc1
     have HA3:=Lib.hid uJ
     clear uJ
     have HBj:=Lib.hid (show Below w.heap.size w wr from(((But.of_below (S:=fun _=>False) zH.out).past Pv.out (fun j hj=>by have:=HG2.out _ hj.symm;omega)).past hJ.but (fun j hj=>by have:=uN.out _ hj.symm;omega)).below (Nat.le_refl _) (fun _ h=>h.elim))
     clear hJ Ju YU YV PD Px lb sb qb BI hrow3 hst3
     go_wp2_with fail
     apply BH (M:=fun(s:Sl) V'=>Go.WW.Own V' wr.heap.size 5 1 s rb∧But (fun j=>some j=s3.blk) wr V'∧Go.WW.Own V' w1.heap.size 64 3 s3 (R3.set q (bY s d.keys[k].keys[q])))
     case h1=>
      have HO:=Lib.hid (Own.empty wr.drew 5 1)
      have HS:=Lib.hid ((SB.out.later hW).later (ag HBj.out (aC (Below.refl _ wr).drew (.cells #[] 5))))
      refine YG (mX (fun _=>False) wr) eU (by kernel_rfl) (by kernel_rfl) (by kernel_rfl) ⟨⟨World.drew wr,(But.refl _ _).drew⟩,rfl⟩ ?_
      repeat (first|(refine aP (by rfl) ?_)|(refine aN (by rfl) (by rfl) (fun K hK=>?_);go_big_quiet_op;refine hK _ ?_;clear hK K))
      refine aS (by rfl) (by rfl) (fun K hK=>?_)
      go_wp2_with fail
      refine hK _ _ (bI (But.of_below (aC (Below.refl _ wr).drew _))) ?_
      clear hK K
      repeat (first|(refine aP (by rfl) ?_)|(refine aN (by rfl) (by rfl) (fun K hK=>?_);go_big_quiet_op;refine hK _ ?_;clear hK K))
      refine aS (by rfl) (by rfl) (fun K hK=>?_)
      refine zG (.tmp 60) (.tmp 70) _ rfl uj (n:=0) (s:=⟨some ⟨wr.heap.size,0,none⟩,0⟩) rfl rfl HO.out rfl LB.out.symm HS.out (by rw[LB.out];simp;omega) (by simp) ?_
      intro s4 w3 hown3 hg3 fQ
      have hb3:Below wr.heap.size wr w3:=(aC (Below.refl _ wr).drew (.cells #[] 5)).grown hg3 (by simp) (fun k' e'=>by cases e';exact Nat.le_refl _)
      go_wp2_with fail
      refine hK _ _ (bI (But.of_below hb3)) ?_
      clear hK K
      repeat (first|(refine aP (by rfl) ?_)|(refine aN (by rfl) (by rfl) (fun K hK=>?_);go_big_quiet_op;refine hK _ ?_;clear hK K))
      refine bW ?_
      unfold vZ
      simp only[List.getLast?_cons_cons,List.getLast?_singleton]
      have hc3:=(hb3.cell (p:=⟨g3,q*3+2,none⟩) YT).trans hc2
      have hf3:=(hb3.frozen (p:=⟨g3,q*3+2,none⟩) YT).trans hf2
      have hown4:=YW.out.kept (w':=w3) (fun g hg=>hb3.block g (YW.out.base hg).2)
      have hown5:=hown4.setCell HA3.out q 2 Pz (by omega) (.slice s4.a d.keys[k].keys[q].bytes.length s4.cap)
      rw[ak8.out,akT]at hown5
      have hown6:Go.WW.Own (w3.setCell ⟨g3,q*3+2,none⟩ (.slice s4.a d.keys[k].keys[q].bytes.length s4.cap)) wr.heap.size 5 1 s4 rb:=by
       rw[List.nil_append]at hown3
       exact hown3.kept fun g hg=>Below.heap_setCell _ _ _ _ (show g≠g3 by have:=(hown3.base hg).1;simp at this;omega)
      have E8:But (fun j=>some j=s3.blk) wr (w3.setCell ⟨g3,q*3+2,none⟩ (.slice s4.a d.keys[k].keys[q].bytes.length s4.cap)):=rY (But.of_below hb3) (.inl ak7.out.symm)
      clear hown3 hown4
      have H5:=Lib.hid hown5
      have H6:=Lib.hid hown6
      have H7:=Lib.hid E8
      clear hown5 hown6 E8
      go_wp2_with fail
      exact⟨s4,rfl,⟨H6.out,H7.out,H5.out⟩⟩
     rintro s4 V' ⟨E9,Jv,YX⟩
     have alb:wr.heap.size≤V'.heap.size:=Jv.size
     have HJ':=Lib.hid (show Pg W0 w V w1.heap.size 64 s2 s3 rk d.keys[k].keys (q+1) (R3.set q (bY s4 d.keys[k].keys[q])) V' from by
      refine⟨HJ.out.but.trans Jv,YX,by rw[List.length_set];exact HJ.out.len,fun j hj hj' hjq=>?_,fun j hj hj' hjq=>?_⟩
      ·by_cases e:j=q
       ·subst e
        refine⟨s4,by rw[List.getElem_set_self],fun y hy=>?_⟩
        have hoy:=E9.but hy (fun g hg=>by
         have h1:=(E9.base hg).1
         rintro((h|h|h)|h)
         ·omega
         ·omega
         ·have:=HG2.out _ h.symm;omega
         ·have:=uN.out _ h.symm;omega)
        refine⟨dJ.dX hoy LB.out (by unfold lim;omega) QB.out,mg.dX hoy LB.out (fun g hg=>⟨by have:=(E9.base hg).1;omega,(E9.base hg).2⟩)⟩
       ·obtain⟨s,h1,h2⟩:=HJ.out.done j (by rw[List.length_set]at hj;exact hj) hj' (by omega)
        refine⟨s,by rw[List.getElem_set_ne (Ne.symm e)];exact h1,fun y hy=>(h2 y ((Jv.mono fun i hi=>.inr hi).trans hy)).mono fun b hb=>⟨hb.1,Nat.lt_of_lt_of_le hb.2 alb⟩⟩
      ·rw[List.getElem_set_ne (show q≠j by omega)]
       exact HJ.out.rest j (by rw[List.length_set]at hj;exact hj) hj' (by omega))
     clear E9 Jv YX
     iterate 3 go_step
     go_wp2_with fail
     go_roundw
     case rel=>exact⟨q+1,_,by omega,by go_num,HJ'.out⟩
     case measure=>simp[intOf];omega
    ·obtain rfl:q=d.keys[k].keys.length:=by omega
     have HI':=Lib.hid (show O9 W0 w V3 61 s2 rK d.keys (k+1) (R.set k (aV s3 d.keys[k])) wr from by
      have hbw:But (Jp W0 w s2) w1 wr:=(Pv.out.mono (fun j hj=>.inr (.inr hj))).past hJ.but (fun j hj=>by have:=uN.out _ hj.symm;omega)
      refine⟨(HI.out.but.trans Pv.out).past hJ.but (fun j hj=>by have:=uN.out _ hj.symm;omega),⟨b2,hb2,HOV.out.but hJ.but (fun g hg h=>by have:=uN.out _ h.symm;have:=HG2.out _ hg;omega),fun g hg=>(HG2.out g hg).2⟩,by rw[List.length_set];exact HI.out.len,fun j hj hj' hjk=>?_,fun j hj hj' hjk=>?_⟩
      ·by_cases e:j=k
       ·subst e
        refine⟨s3,by rw[List.getElem_set_self],fun y hy=>?_⟩
        have hoy:=hJ.own.but hy (fun g hg=>by
         have h1:=(uN.out _ hg).1
         rintro(h|h|h)
         ·omega
         ·omega
         ·have:=HG2.out _ h.symm;omega)
        refine aO.dX hoy hJ.len nk fun i hi=>?_
        have hi':i<d.keys[j].keys.length:=by rw[←hJ.len];exact hi
        obtain⟨s,h1,h2⟩:=hJ.done i hi hi' hi'
        exact⟨_,s,List.getElem?_eq_getElem hi',h1,h2 y (hy.mono fun i hi=>.inl hi)⟩
       ·obtain⟨s,h1,h2⟩:=HI.out.done j (by rw[List.length_set]at hj;exact hj) hj' (by omega)
        refine⟨s,by rw[List.getElem_set_ne (Ne.symm e)];exact h1,fun y hy=>(h2 y (hbw.trans hy)).mono fun b hb=>⟨hb.1,Nat.lt_of_lt_of_le hb.2 hbw.size⟩⟩
      ·rw[List.getElem_set_ne (show k≠j by omega)]
       exact HI.out.rest j (by rw[List.length_set]at hj;exact hj) hj' (by omega))
     clear hJ
     go_wp2_with fail
     go_roundw
     case rel=>exact⟨k+1,_,by omega,by go_num,HI'.out⟩
     case measure=>simp[intOf];omega
  ·obtain rfl:k=d.keys.length:=by omega
   have hzr:aJ w1 (w.heap.size+1) 0 17=true:=by
    have hlt1:w.heap.size+1<V3.heap.size:=by
     have h:=HZ3.out
     unfold aJ at h
     split at h
     ·rename_i hb;exact(Array.getElem?_eq_some_iff.1 hb).1
     ·cases h
    rw[tJ (hI.but.block _ hlt1 (fun h=>by have:=HG2.out _ h.symm;omega))];exact HZ3.out
   have hrw:row? w1 w.heap.size 0 17=some (ae r3 d):=by rw[bV hxr];exact dH (by simp[go_sem])
   have HI:=Lib.hid hI
   clear hI hc hf hr
   go_wp2_with fail
   have hrow:=iV (w:=w1) (He r3 d) hzr
   refine bodyPost_ret (Vh (by rfl) Tryz.underlying32 rfl (by kernel_rfl) rfl hrow) rfl ⟨r3,rfl,Go.WW.Below.putRow hBr (by omega),fun y hy=>?_⟩
   have hps:(putRow w1 (w.heap.size+1) 0 (ae r3 d)).heap.size=w1.heap.size:=by rw[jS]
   have hy2:But (fun j=>(W0.heap.size≤j∧j<w.heap.size)∨j=w.heap.size+1) w1 y:=((But.refl _ w1).put (.inr rfl)).trans (hy.mono fun k hk=>.inl hk)
   have hy1:But (Jp W0 w s2) w1 y:=hy2.mono fun k hk=>hk.imp id fun h=>.inl (.inr h)
   have YY:Below W0.heap.size W0 y:=(hW.trans (hBr.mono hW0)).trans (hy2.below (n:=W0.heap.size) (by omega) (fun k hk=>by omega))
   have PG:∀g,w.heap.size+2≤g→¬((W0.heap.size≤g∧g<w.heap.size)∨g=w.heap.size+1):=fun g hg h=>by omega
   have hE:=HE.out.later YY
   have jU:=HR3.out
   have YZ:=((HO1.out.but HI.out.but (fun g hg h=>by have:=Ph.out _ hg;have:=HG2.out _ h.symm;omega)).but hy2 (fun g hg=>PG g (Ph.out _ hg).1))
   have Y0:=((HO2.out.but HI.out.but (fun g hg h=>by have:=Pj.out _ hg;have:=HG2.out _ h.symm;omega)).but hy2 (fun g hg=>PG g (Pj.out _ hg).1))
   have PH:=Jr.but hy2 (fun g hg=>PG g (by have:=HG2.out _ hg;omega))
   have hS3:aO y 5 s2.a d.keys.length (fun i cs=>∃p s,d.keys[i]?=some p∧cs=aV s p∧YC (span w.heap.size (putRow w1 (w.heap.size+1) 0 (ae r3 d)).heap.size) y s p):=
    aO.dX PH HI.out.len n2 fun i hi=>by
     have hi':i<d.keys.length:=by rw[←HI.out.len];exact hi
     obtain⟨s,h1,h2⟩:=HI.out.done i hi hi' hi'
     have h3:=jZ.get hE.keys i hi'
     obtain⟨_,_,_,_,_,h4⟩:=h3
     exact⟨_,s,List.getElem?_eq_getElem hi',h1,by rw[hps];exact h2 y hy1,h4.2⟩
   have hfr:∀g,w.heap.size+2≤g→g<V3.heap.size→span w.heap.size (putRow w1 (w.heap.size+1) 0 (ae r3 d)).heap.size g:=fun g h1 h2=>⟨by omega,by rw[hps];omega⟩
   refine⟨⟨?_,?_,?_,?_,?_,?_,hE.aK,hE.attrs⟩,?_,?_,?_⟩
   ·rw[jU.1]
    exact⟨dJ.dX YZ LP.out (by unfold lim;omega) QP.out,hE.name.2⟩
   ·rw[jU.2.1]
    exact aO.dX Y0 LA.out (by unfold lim;omega) (fun i hi=>by
     obtain⟨p,s,h1,h2,h3⟩:=QA.out i hi
     exact⟨p,s,h1,h2,h3.later YY⟩)
   ·rw[jU.2.2.1];exact BG.at_ ⟨hS3,mg.dX PH HI.out.len (fun g hg=>by have:=HG2.out _ hg;exact hfr g (by omega) this.2)⟩
   ·rw[jU.2.2.2.1];exact hE.targets
   ·rw[jU.2.2.2.2.1];exact hE.bH
   ·rw[jU.2.2.2.2.2];exact hE.history
   ·rw[jU.1];exact mg.dX YZ LP.out (fun g hg=>by have:=Ph.out _ hg;exact hfr g this.1 (by omega))
   ·rw[jU.2.1];exact mg.dX Y0 LA.out (fun g hg=>by have:=Pj.out _ hg;exact hfr g this.1 (by omega))
   ·rw[jU.2.2.1];exact⟨hS3,mg.dX PH HI.out.len (fun g hg=>by have:=HG2.out _ hg;exact hfr g (by omega) this.2)⟩
end Go.Proofs.YtaghcadlgbnbdaaGreatDoor
namespace Go.WW
open Go.RowKit
structure dL where
 k:UInt8
 d:Entry
 q:aB
 a:Int
 b:Int
 c:Int
 p:ah
structure dw where
 r:aI
 t:Sl
def mi(x:dL):Array Value:=#[.int .i64 x.a,.int .i64 x.b,.int .i64 x.c]
theorem alg(x:dL):(mi x).size=3:=by simp[mi]
theorem alh(x:dL):dD (mi x)=true:=by simp[dD,mi,Value.oneCell']
theorem ali(x:dL)(h:0<(mi x).size):(mi x)[0]'h=.int .i64 x.a:=by simp[mi]
theorem alj(x:dL)(h:1<(mi x).size):(mi x)[1]'h=.int .i64 x.b:=by simp[mi]
theorem alk(x:dL)(h:2<(mi x).size):(mi x)[2]'h=.int .i64 x.c:=by simp[mi]
attribute [go_sem] ali alj alk alg alh
def dM(z:dw)(x:dL):Array Value:=#[.int .u8 x.k.toNat]++(ae z.r x.d++(ak z.t x.q++(#[.int .i64 x.a,.int .i64 x.b,.int .i64 x.c]++az x.p)))
theorem Jw(z:dw)(x:dL):(dM z x).size=33:=by kernel_rfl
theorem alm(z:dw)(x:dL):dD (dM z x)=true:=by kernel_rfl
theorem Y1(z:dw)(x:dL):(dM z x)[0]?=some (.int .u8 x.k.toNat):=by kernel_rfl
theorem PI(z:dw)(x:dL):(dM z x)[23]?=some (.string x.p.name):=by kernel_rfl
theorem Y2(z:dw)(x:dL):eQ (dM z x) 1 17=some (ae z.r x.d):=by kernel_rfl
theorem Y3(z:dw)(x:dL):eQ (dM z x) 18 2=some (ak z.t x.q):=by kernel_rfl
theorem aln(z:dw)(x:dL):eQ (dM z x) 20 3=some (mi x):=by kernel_rfl
theorem alo(z:dw)(x:dL):(dM z x)[20]?=some (.int .i64 x.a):=by kernel_rfl
theorem alp(z:dw)(x:dL):(dM z x)[21]?=some (.int .i64 x.b):=by kernel_rfl
theorem alq(z:dw)(x:dL):(dM z x)[22]?=some (.int .i64 x.c):=by kernel_rfl
theorem alr(z:dw)(x:dL):eQ (dM z x) 23 10=some (az x.p):=by kernel_rfl
attribute [irreducible] dM
theorem als(z:dw)(x:dL)(h:0<(dM z x).size):(dM z x)[0]'h=.int .u8 x.k.toNat:=by have e:=Y1 z x;rw[Array.getElem?_eq_getElem h]at e;exact Option.some.inj e
theorem alu(z:dw)(x:dL)(h:23<(dM z x).size):(dM z x)[23]'h=.string x.p.name:=by have e:=PI z x;rw[Array.getElem?_eq_getElem h]at e;exact Option.some.inj e
attribute [go_sem] als alu Jw alm Y1 alo alp alq PI Y2 Y3 aln alr
structure sF(w:World)(z:dw)(x:dL):Prop where
 EX:bz w z.r x.d
 BJ:bg w z.t x.q
 Jy:x.p.name.size≤lim
theorem sF.later{w w':World}{z:dw}{x:dL}(h:sF w z x)(hb:Below w.heap.size w w'):sF w' z x:=⟨h.EX.later hb,h.BJ.later hb,h.Jy⟩
def pF(w:World)(a:Option Addr)(l:List dL):Prop:=aO w 33 a l.length fun i cs=>∃x z,l[i]?=some x∧cs=dM z x∧sF w z x
theorem pF.later{w w':World}(h:Below w.heap.size w w'){a:Option Addr}{l:List dL}(x:pF w a l):pF w' a l:=aO.later h (fun _ _ ⟨d,r,y1,y2,y3⟩=>⟨d,r,y1,y2,y3.later h⟩) x
theorem gW.grow{S S':Nat→Prop}{es ps:Sl}{D:Db}{X:List EE}{w:World}(h:gW S es ps D X w)(hS:∀k,S' k→k<w.heap.size→S k):gW S' es ps D X w:=⟨h.dR.grow hS,h.eu.grow hS,h.cap⟩
theorem alv{w:World}{b o:Nat}{z:dw}{x:dL}(h:row? w b o 33=some (dM z x)):row? w b (o+1) 17=some (ae z.r x.d):=(Oa h (by omega)).trans (Y2 z x)
theorem alx{w:World}{b o:Nat}{z:dw}{x:dL}(h:row? w b o 33=some (dM z x)):row? w b (o+18) 2=some (ak z.t x.q):=(Oa h (by omega)).trans (Y3 z x)
theorem aly{w:World}{b o:Nat}{z:dw}{x:dL}(h:row? w b o 33=some (dM z x)):w.cell? ⟨b,o+23,none⟩=some (.string x.p.name):=(gp h 23 (by omega)).trans (PI z x)
theorem aO.Y4{w:World}{a:Option Addr}{l:List dL}(x:pF w a l)(i:Nat)(h:i<l.length):∃b o z,a=some ⟨b,o,none⟩∧row? w b (o+i*33) 33=some (dM z l[i])∧sF w z l[i]:=by
 obtain⟨b,o,v,h1,h2,d,r,h3,rfl,h4⟩:=x.2 i h
 rw[List.getElem?_eq_getElem h]at h3;cases h3
 exact⟨b,o,r,h1,h2,h4⟩
structure BK(D:Db)(X:List EE)(D':Db)(X':List EE):Prop where
 aG:D'.aG=D.aG
 s0:D.ay≤D'.ay
 s1:D'.ay≤D.ay+1
 len:X'.length≤X.length+1
 eu:D'.ax.length≤D.ax.length+1
 sort:Sorted bQ (fun q:ah=>q.name) D.ax→Sorted bQ (fun q:ah=>q.name) D'.ax
theorem alz{D D':Db}{X X':List EE}{r:aI}{d:Entry}{no:Int}(h:nG D X r d no D' X'):BK D X D' X':=by
 obtain⟨h1,h2,h3,h4,h5,-⟩:=aju h
 exact⟨h2,h3,h4,h5,by rw[h1];omega,by rw[h1];exact id⟩
theorem alA{D D':Db}{X X':List EE}{q:aB}{no:Int}(h:vW D X q no D' X'):BK D X D' X':=by
 obtain⟨h1,h2,h3,h4,h5⟩:=akG h
 exact⟨h2,h3,h4,by omega,by rw[h1];omega,by rw[h1];exact id⟩
theorem alB{D D':Db}{X X':List EE}{q:aB}{f a b no:Int}(h:uI D X q f a b no D' X'):BK D X D' X':=by
 obtain⟨h1,h2,h3,h4,h5⟩:=akH h
 exact⟨h2,h3,h4,by omega,by rw[h1];omega,by rw[h1];exact id⟩
theorem alC{D D':Db}(X:List EE){q:ah}{no:Int}(hn:(D.ax.map (·.name)).Nodup)(h:ou D q no D'):BK D X D' X:=by
 obtain⟨h1,h2,h3,h4,h5⟩:=Yf h
 exact⟨h2,h3,h4,by omega,h5,ajB h hn⟩
theorem alD{D D':Db}(X:List EE){k:ByteArray}{no:Int}(h:uG D k no D'):BK D X D' X:=by
 obtain⟨h1,h2,h3,h4,h5,h6⟩:=akI h
 exact⟨h2,h3,h4,by omega,by omega,fun hs=>hs.sublist h6⟩
end Go.WW
namespace Go.Proofs.YtaghcadlgbnbdaaGreatDoor
open Go.RowKit Go.WW
theorem PK(n:Int)(w:World):Calls Tryz.prog 14 #[.int .i64 n] w fun e w'=>e=.returned (.int .i64 n)∧w=w':=by
 go_enter Tryz.func14,Tryz.ntmps14
 go_wp2_with fail
 go_ret
 exact⟨rfl,rfl⟩
theorem alE(w:World)(b o:Nat):(jq 37 (.pointer (some ⟨b,o,none⟩))).run Tryz.prog w=qM Tryz.prog 37 w b o (row? w b o 33):=uZ Tryz.underlying37 rfl (by kernel_rfl) w b o
theorem alF(ρ:Operand→Value)(dst:Option Tmp)(x:Operand)(ty:TypeId)(pos:String)(after:Array Edge)(guard:Option (Nat×Bool)):execOp ρ {dst,op:=.load 37 x,type:=ty,pos,after,guard}=jq 37 (ρ x):=rfl
attribute [go_sem] alE
attribute [go_sem ↓] alF
theorem alG(w:World)(b o:Nat):(jq 33 (.pointer (some ⟨b,o,none⟩))).run Tryz.prog w=qM Tryz.prog 33 w b o (row? w b o 3):=uZ Tryz.underlying33 rfl (by kernel_rfl) w b o
theorem alH(ρ:Operand→Value)(dst:Option Tmp)(x:Operand)(ty:TypeId)(pos:String)(after:Array Edge)(guard:Option (Nat×Bool)):execOp ρ {dst,op:=.load 33 x,type:=ty,pos,after,guard}=jq 33 (ρ x):=rfl
attribute [go_sem] alG
attribute [go_sem ↓] alH
theorem alI(w:World)(b o:Nat)(cs:Array Value)(hn:cs.size=3)(h1:dD cs=true):(jQ 33 (.pointer (some ⟨b,o,none⟩)) (.agg cs)).run Tryz.prog w=tH Tryz.prog 33 w b o cs (aJ w b o 3):=wX (by kernel_rfl) w b o cs hn h1
theorem alJ(ρ:Operand→Value)(dst:Option Tmp)(x y:Operand)(ty:TypeId)(pos:String)(after:Array Edge)(guard:Option (Nat×Bool)):execOp ρ {dst,op:=.store 33 x y,type:=ty,pos,after,guard}=jQ 33 (ρ x) (ρ y):=rfl
attribute [go_sem] alI
attribute [go_sem ↓] alJ
structure kN(S:Nat→Prop)(b n e p:Nat)(re:ByteArray)(es ps:Sl)(D:Db)(X:List EE)(N:Nat)(w:World):Prop where
 ex:∃NL E P,jm S b n e p re D.ay NL E P w∧iG D X NL E P
 ref:gW S es ps D X w
 aG:D.aG=re
 lt:∀k,S k→k<w.heap.size
 sort:Sorted bQ (fun q:ah=>q.name) D.ax
 d0:0≤D.ay
 d1:D.ay≤(N:Int)
 n1:X.length≤N
 n2:D.ax.length≤N
theorem bT.same{w w':World}{b n e p:Nat}{re:ByteArray}{s:Int}{N:List (ByteArray×Value)}{E:List EE}{P:List ah}(h:bT w b n e p re s N E P)(hs:∀k,aX b n e p k→w'.heap[k]?=w.heap[k]?):bT w' b n e p re s N E P:=
 ⟨(hs b (.inl rfl)).trans h.box,h.nm.at (hs n (.inr (.inl rfl))),h.em.at (hs e (.inr (.inr (.inl rfl)))),h.pm.at (hs p (.inr (.inr (.inr rfl)))),h.ne⟩
theorem jm.off{S T:Nat→Prop}{b n e p:Nat}{re:ByteArray}{s:Int}{NL:List (ByteArray×ByteArray)}{E:List EE}{P:List ah}{w w':World}(h:jm S b n e p re s NL E P w)(hb:But T w w')(hT:∀k,T k→S k)(hn:∀k,T k→¬aX b n e p k):jm S b n e p re s NL E P w':=
 ⟨h.db.same fun k hk=>hb.block k (h.lt k hk) fun ht=>hn k ht hk,fun x hx=>(h.keep x hx).on (hb.mono hT),h.sub⟩
theorem jm.grow{S S':Nat→Prop}{b n e p:Nat}{re:ByteArray}{s:Int}{NL:List (ByteArray×ByteArray)}{E:List EE}{P:List ah}{w:World}(h:jm S b n e p re s NL E P w)(hS:∀k,S' k→k<w.heap.size→S k)(hsub:∀k,S k→S' k):jm S' b n e p re s NL E P w:=
 ⟨h.db,fun x hx=>(h.keep x hx).grow hS,fun k hk=>hsub k (h.sub k hk)⟩
def Y5(S:Nat→Prop)(b n e p:Nat)(re:ByteArray)(N:Nat)(w:World)(z:Ending)(w':World):Prop:=
 ∃S' es' ps' D' X',z=.returned (.tuple #[.agg (aj es' ps' D'),.bool true])∧But (aX b n e p) w w'∧kN S' b n e p re es' ps' D' X' (N+1) w'∧(∀k,S' k→S k∨w.heap.size≤k)∧(∀k,S k→S' k)
theorem alK{S S1:Nat→Prop}{b n e p:Nat}{re:ByteArray}{es es' ps ps':Sl}{D D':Db}{X X':List EE}{N:Nat}{w w3 w9:World}{mf:List (ByteArray×ByteArray)}{E':List EE}{P':List ah}{z:Ending}(h:kN S b n e p re es ps D X N w)(hz:z=.returned (.tuple #[.agg (aj es' ps' D'),.bool true]))
  (hst:BK D X D' X') (hP:jm S1 b n e p re (D.ay+(D'.ay-D.ay)) mf E' P' w3) (hR:iG D' X' mf E' P') (hF:gW S1 es' ps' D' X' w9) (hS1:∀k,S1 k→S k∨w.heap.size≤k) (alL:∀k,S k→S1 k) (hlt:∀k,S1 k→k<w9.heap.size)
  {T:Nat→Prop} (hb:But T w3 w9) (hT:∀k,T k→S1 k) (hTw:∀k,T k→w.heap.size≤k) (hB:But (aX b n e p) w w9):Y5 S b n e p re N w z w9:=by
 obtain⟨NL,E,P,h1,-⟩:=h.ex
 have e1:D.ay+(D'.ay-D.ay)=D'.ay:=by omega
 rw[e1]at hP
 have:=hst.s0;have:=hst.s1;have:=hst.len;have:=hst.eu;have:=h.d0;have:=h.d1;have:=h.n1;have:=h.n2
 exact⟨S1,es',ps',D',X',hz,hB,⟨⟨mf,E',P',hP.off hb hT fun k hk hd=>by have:=h1.lt k hd;have:=hTw k hk;omega,hR⟩,hF,hst.aG.trans h.aG,hlt,hst.sort h.sort,by omega,by push_cast;omega,by omega,by omega⟩,hS1,alL⟩
end Go.Proofs.YtaghcadlgbnbdaaGreatDoor
namespace Go.WW
open Go.RowKit
theorem alN(z:dw)(x:dL):(dM z x).toList=[.int .u8 x.k.toNat]++((ae z.r x.d).toList++((ak z.t x.q).toList++([.int .i64 x.a,.int .i64 x.b,.int .i64 x.c]++(az x.p).toList))):=by
 unfold dM;simp only[Array.toList_append]
end Go.WW
namespace Go.Proofs.YtaghcadlgbnbdaaGreatDoor
open Go.ChangeShapes Go.WideShapes Go.ChangeAt Go.RowKit Go.WW Go.Deep
theorem alO(cs:List Value)(h:cs.length=33):cs=(cs.drop 0).take 1++((cs.drop 1).take 17++((cs.drop 18).take 2++((cs.drop 20).take 3++(cs.drop 23).take 10))):=by
 have e5:(cs.drop 23).take 10=cs.drop 23:=List.take_of_length_le (by simp[h])
 have e4:(cs.drop 20).take 3++cs.drop 23=cs.drop 20:=by
  have:=List.take_append_drop 3 (cs.drop 20);rwa[List.drop_drop]at this
 have e3:(cs.drop 18).take 2++cs.drop 20=cs.drop 18:=by
  have:=List.take_append_drop 2 (cs.drop 18);rwa[List.drop_drop]at this
 have e2:(cs.drop 1).take 17++cs.drop 18=cs.drop 1:=by
  have:=List.take_append_drop 17 (cs.drop 1);rwa[List.drop_drop]at this
 rw[e5,e4,e3,e2,List.drop_zero]
 exact(List.take_append_drop 1 cs).symm
theorem Y6:Tryz.prog.cellsOf 37=33:=by kernel_rfl
theorem Y7:Tryz.prog.cellsOf 33=3:=by kernel_rfl
section
variable {H:Type} {enc:TypeId×Value→H} {w:World} {base:Nat} {spare:Nat→Bool} {held:Bool} {fuel:Nat} {x:DataW H×List MemPlace}
theorem alP{cs:List Value}(h:DataW.trod enc Tryz.prog w base spare held fuel 33 cs=some x):∃a b c:Int,cs=[.int .i64 a,.int .i64 b,.int .i64 c]:=by
 obtain⟨xs,m,_,_,hl,hx,hel⟩:=DataW.trod_array Tryz.underlying33 h
 rw[Y7]at hl
 obtain⟨c0,c1,c2,rfl⟩:=TP hl
 have each:∀i (c:Value),i<3→[c0,c1,c2][i]?=some c→∃n:Int,c=.int .i64 n:=fun i c hi hc=>by
  have:=hel i hi
  rw[iW,Nat.mul_one,take_one hc,List.getElem?_eq_getElem (by omega)]at this
  exact iY this
 obtain⟨a,rfl⟩:=each 0 c0 (by omega) rfl
 obtain⟨b,rfl⟩:=each 1 c1 (by omega) rfl
 obtain⟨c,rfl⟩:=each 2 c2 (by omega) rfl
 exact⟨a,b,c,rfl⟩
theorem Y8{cs:List Value}(h:DataW.trod enc Tryz.prog w base spare held fuel 37 cs=some x)(hb:Rows.uptoBulk x.1≤1048576) :
  ∃z y,cs=(dM z y).toList∧sF w z y:=by
 obtain⟨hl,n,hf⟩:=AB Tryz.underlying37 h hb
 rw[Y6]at hl
 obtain⟨y0,t0,-⟩:=hf 0 _ rfl
 obtain⟨y1,t1,b1⟩:=hf 1 _ rfl
 obtain⟨y2,t2,b2⟩:=hf 2 _ rfl
 obtain⟨y3,t3,-⟩:=hf 3 _ rfl
 obtain⟨y4,t4,b4⟩:=hf 4 _ rfl
 replace t0:DataW.trod enc Tryz.prog w base spare held n 5 ((cs.drop 0).take (Tryz.prog.cellsOf 5))=some y0:=t0
 replace t1:DataW.trod enc Tryz.prog w base spare held n 32 ((cs.drop 1).take (Tryz.prog.cellsOf 32))=some y1:=t1
 replace t2:DataW.trod enc Tryz.prog w base spare held n 25 ((cs.drop 18).take (Tryz.prog.cellsOf 25))=some y2:=t2
 replace t3:DataW.trod enc Tryz.prog w base spare held n 33 ((cs.drop 20).take (Tryz.prog.cellsOf 33))=some y3:=t3
 replace t4:DataW.trod enc Tryz.prog w base spare held n 35 ((cs.drop 23).take (Tryz.prog.cellsOf 35))=some y4:=t4
 rw[TQ]at t0
 rw[TT]at t1
 rw[Hg]at t2
 rw[Y7]at t3
 rw[TU]at t4
 have hs:=alO cs hl
 obtain⟨c0,hc0⟩:∃c0,(cs.drop 0).take 1=[c0]:=LY (by simp;omega)
 rw[hc0]at t0
 obtain⟨k,rfl⟩:=TW t0
 obtain⟨r,d,he,hat⟩:=adl t1 b1
 obtain⟨s,p,hp,hpa⟩:=L6 t2 b2
 obtain⟨a,b,c,hn⟩:=alP t3
 obtain⟨q,hq,Jz⟩:=adu t4 b4
 rw[hc0,he,hp,hn,hq]at hs
 refine⟨⟨r,s⟩,⟨k,d,p,a,b,c,q⟩,?_,⟨hat,hpa,Jz⟩⟩
 rw[alN];exact hs
theorem alQ{v:Value}(h:DataW.trod enc Tryz.prog w base spare held fuel 22 [v]=some x)(hb:Rows.uptoBulk x.1≤1048576):∃(s:Sl) (l:List dL),v=.slice s.a l.length s.cap∧pF w s.a l:=by
 obtain⟨s,n,hv,hn,hel⟩:=yG Tryz.underlying22 Y6 (by omega) h hb
 obtain⟨l,hl,hr⟩:=wZ (R:=fun i (a:dL)=>∃b o z,s.a=some ⟨b,o,none⟩∧row? w b (o+i*33) 33=some (dM z a)∧sF w z a) (n:=n) (fun i hi=>by
  obtain⟨b,o,cs,f',y,ha,hrow,ht,hby⟩:=hel i hi
  obtain⟨z,p,hcs,hp⟩:=Y8 ht hby
  exact⟨p,b,o,z,ha,by rw[hrow,←Array.toList_inj.1 hcs],hp⟩)
 refine⟨s,l,by rw[hl];exact hv,by rw[hl];exact xe hn,fun i hi=>?_⟩
 obtain⟨b,o,z,h1,h2,h3⟩:=hr i l[i] (List.getElem?_eq_getElem hi)
 exact⟨b,o,_,h1,h2,l[i],z,List.getElem?_eq_getElem hi,rfl,h3⟩
end
theorem laidOut:laidOutB Tryz.prog=true:=by kernel_rfl
theorem alR:Tryz.prog.readableRec 22=true:=by kernel_rfl
theorem alS:Tryz.prog.readableRec 37=true:=by kernel_rfl
theorem alT:Tryz.prog.readableRec 3=true:=by kernel_rfl
theorem alU:22<Tryz.prog.types.size:=of_decide_eq_true (by kernel_rfl)
theorem alV:37<Tryz.prog.types.size:=of_decide_eq_true (by kernel_rfl)
theorem ltInt:3<Tryz.prog.types.size:=of_decide_eq_true (by kernel_rfl)
section
variable {H:Type} {enc:TypeId×Value→H}
theorem alW{W:World}{b0:Nat}{v:Value}{d:DataW H}{p:List MemPlace}(_hv:Value.okWide Tryz.prog W .any b0 22 v)(h:DataW.Trod enc Tryz.prog W 0 (fun _=>true) true 22 v d p)(hb:Rows.uptoBulk d≤1048576) :
  ∃(s:Sl) (l:List dL),v=.slice s.a l.length s.cap∧pF W s.a l:=by
 obtain⟨a,len,cap,rfl⟩:=okWide_slice Tryz.underlying22 _hv
 obtain⟨fuel,hf⟩:=h
 exact alQ (x:=(d,p)) hf hb
theorem alX{W:World}{b0:Nat}{v:Value}{d:DataW H}{p:List MemPlace}(hv:Value.okWide Tryz.prog W .any b0 37 v)(h:DataW.Trod enc Tryz.prog W 0 (fun _=>true) true 37 v d p)(hb:Rows.uptoBulk d≤1048576) :
  ∃(z:dw) (x:dL),v=.agg (dM z x)∧sF W z x:=by
 obtain⟨cs,rfl,_⟩:=okWide_struct Tryz.underlying37 hv
 obtain⟨fuel,hf⟩:=h
 obtain⟨z,y,he,hat⟩:=Y8 hf hb
 have h1:cs=dM z y:=Array.toList_inj.1 he
 exact⟨z,y,by rw[h1],hat⟩
theorem stays{W W':World}{t:TypeId}{v:Value}{d:DataW H}{ps:List MemPlace}(hr:Tryz.prog.readableRec t=true)(hrow:t<Tryz.prog.types.size)(h:DataW.Trod enc Tryz.prog W 0 (fun _=>true) true t v d ps)(hb:Below W.heap.size W W')(hlt:∀x∈ps,x.block<W.heap.size)
  {sp:Nat→Bool} (hsp:∀x∈ps,sp x.block=true):DataW.Trod enc Tryz.prog W' 0 sp true t v d ps:=
 WideElems.Trod_stays laidOut hr hrow h (fun x hx=>hb.same (hlt x hx)) hsp
theorem alY{f:Func}{s:ChangeSpec}{fresh handsOn again apart:Bool}{W W':World}{args:Array Value}{v:Value}{ds:List (DataW H)}{before:List MemPlace}
  (hW:DataW.Whole enc Tryz.prog f.params.toList s.vars apart W args.toList ds [] before)
  (hres:∀(b:Nat) (sp:Nat→Bool) (hd:Bool),DataW.TrodAll enc Tryz.prog W' b sp hd f.resultTypes.toList (v.resultList f.resultTypes.size) (s.fn H (ds++[])).results [])
  (hargs:∀sp:Nat→Bool,(∀p∈before,sp p.block=true)→DataW.TrodAll enc Tryz.prog W' 0 sp true f.params.toList args.toList (s.fn H (ds++[])).args before)
  (hvars:∀sp:Nat→Bool,DataW.TrodVars enc Tryz.prog W' sp s.vars (s.fn H (ds++[])).vars [])
  (hb:Below W.heap.size W W') (hok:∀(j:Nat) (t:TypeId) (r:Value),f.resultTypes[j]?=some t→(v.resultList f.resultTypes.size)[j]?=some r→Value.okWide Tryz.prog W' .any 0 t r) :
  s.post enc Tryz.prog f apart fresh handsOn again W args v W':=by
 have hold:∀q∈before,decide (q.block<W.heap.size)=true:=fun q hq=>by simpa using hW.lt q hq
 have hlt:=hW.lt
 refine⟨ds,[],before,[],before,[],hW,hres _ _ _,hargs _ hold,hvars _,World.keptBut_mono (fun q hq=>⟨hq,.inr (.inl hq)⟩) (hb.frame (·∈before)),fun _=>?_⟩
 obtain⟨_,_,_,_,_,hz,hn⟩:=hW
 refine⟨hok,_,_,([]++before)++[],⟨[]++before,[],trodAll_append (hargs _ (fun _ _=>rfl)) (hres _ _ _),hvars _,rfl,fun b off hq=>?_,fun ha=>?_⟩,fun q hq _=>?_⟩
 ·have hin:MemPlace.cell b off∈before:=by simpa using hq
  rw[hb.frozen (hlt _ hin)]
  exact hz b off hin
 ·simpa using hn ha
 ·simpa using hq
end
end Go.Proofs.YtaghcadlgbnbdaaGreatDoor
namespace Go.WW
open Go.RowKit
structure qB(w:World)(rows:List (Array Value))(l:List aB):Prop where
 len:rows.length=l.length
 at_:∀i (hi:i<rows.length),∃p s,l[i]?=some p∧rows[i]=ak s p∧bg w s p
theorem qB.nil(w:World):qB w [] []:=⟨rfl,fun _ hi=>absurd hi (Nat.not_lt_zero _)⟩
theorem qB.append{w:World}{r1 r2:List (Array Value)}{l1 l2:List aB}(h1:qB w r1 l1)(h2:qB w r2 l2):qB w (r1++r2) (l1++l2):=by
 refine⟨by simp[h1.len,h2.len],fun i hi=>?_⟩
 by_cases hlt:i<r1.length
 ·obtain⟨p,s,e1,e2,e3⟩:=h1.at_ i hlt
  exact⟨p,s,by rw[List.getElem?_append_left (by have:=h1.len;omega)];exact e1,by rw[List.getElem_append_left hlt];exact e2,e3⟩
 ·obtain⟨p,s,e1,e2,e3⟩:=h2.at_ (i-r1.length) (by simp at hi;omega)
  exact⟨p,s,by rw[List.getElem?_append_right (by have:=h1.len;omega),←h1.len];exact e1,by rw[List.getElem_append_right (by omega)];exact e2,e3⟩
theorem qB.later{w w':World}{r:List (Array Value)}{l:List aB}(h:qB w r l)(hb:Below w.heap.size w w'):qB w' r l:=
 ⟨h.len,fun i hi=>by obtain⟨p,s,e1,e2,e3⟩:=h.at_ i hi;exact⟨p,s,e1,e2,e3.later hb⟩⟩
theorem qB.alZ{w:World}{base:Nat}{e:TypeId}{s:Sl}{r:List (Array Value)}{l:List aB}(h:qB w r l)(ho:Own w base e 2 s r)(hl:l.length≤lim):eG w s.a l:=
 aO.dX ho h.len hl h.at_
end Go.WW
namespace Go.Proofs.YtaghcadlgbnbdaaGreatDoor
open Go.RowKit Go.WW
def BL(n:Nat)(most:Int)(w:World)(z:Ending)(w':World):Prop:=∃c:Bool,z=.returned (.bool c)∧(c=true→(n:Int)≤most)∧Below w.heap.size w w'
theorem wu{n:Nat}{most:Int}{w w':World}(h:Below w.heap.size w w'):BL n most w (.returned (.bool false)) w':=⟨false,rfl,(fun h=>by cases h),h⟩
theorem al0(a:Option Addr)(cap n:Nat)(most:Int)(w:World)(hn:most<(n:Int)):Calls Tryz.prog 4 #[.slice a n cap,.int .i64 most] w (BL n most w):=by
 go_enter Tryz.func4,Tryz.ntmps4
 go_wp2_with fail
 go_ret
 exact wu (Below.refl _ _)
theorem al1(a:Option Addr)(cap n:Nat)(most:Int)(w:World)(h0:n=0)(hn:¬most<(n:Int)):Calls Tryz.prog 4 #[.slice a n cap,.int .i64 most] w (BL n most w):=by
 subst h0
 go_enter Tryz.func4,Tryz.ntmps4
 go_wp2_with fail
 refine wp_loop_rounds 1 ?_
 rw[rounds_succ]
 go_wp2_with fail
 go_ret
 exact⟨true,rfl,fun _=>by simpa using hn,Below.refl _ _⟩
theorem al2(bA oA cap:Nat)(l:List dL)(most:Int)(w:World)(hl:pF w (some ⟨bA,oA,none⟩) l)(hn:¬most<(l.length:Int)) :
  Calls Tryz.prog 4 #[.slice (some ⟨bA,oA,none⟩) l.length cap,.int .i64 most] w (BL l.length most w):=by
 have hlim:l.length≤4294967000:=hl.1
 have HL:=Lib.hid hl
 have HM:=Lib.hid (show(l.length:Int)≤most by omega)
 clear hl
 go_enter Tryz.func4,Tryz.ntmps4
 go_wp2_with fail
 clear hn
 go_loopw [5] (fun iv wr=>∃k:Nat,k≤l.length∧iv=.int .i64 k∧Below w.heap.size w wr) (fun iv _=>l.length-(intOf iv).toNat)
 case atStart=>exact⟨0,Nat.zero_le _,rfl,Below.refl _ _⟩
 case round=>
  obtain⟨w1,rfl⟩:∃w1,w1=wr:=⟨_,rfl⟩
  obtain⟨kk,hkk,rfl,hB1⟩:=hrel
  by_cases hlt:kk<l.length
  ·obtain⟨b',o',z,ha,hrow0,Fa⟩:=aO.Y4 HL.out kk hlt
   cases ha
   have hrow:row? w1 bA (oA+kk*33) 33=some (dM z l[kk]):=(fO (hB1.block _ (gq hrow0)) _ _).trans hrow0
   have oZ:bA<w1.heap.size:=gq hrow
   have hx1:=Fa.later hB1
   generalize l[kk]=x at *
   obtain⟨xk,d,p,xa,xb,xc,q⟩:=x
   obtain⟨r,s⟩:=z
   have he:=hx1.EX
   have hp:=hx1.BJ
   dsimp only at he hp
   have hr0:=alv hrow
   have hr1:=alx hrow
   have hr2:=aly hrow
   have Jz:=hx1.Jy
   clear hrow hrow0 Fa hx1
   dsimp only at hr0 hr1 hr2 Jz
   have hd0:d.aliases.length≤4294967000:=he.aliases.1
   have hd1:d.keys.length≤4294967000:=he.keys.1
   have hd2:d.targets.length≤4294967000:=he.targets.1
   have hd3:d.bH.length≤4294967000:=he.bH.1
   have hd4:d.history.length≤4294967000:=he.history.1
   have hd5:d.aK.size≤4294967000:=he.aK
   have hq5:q.name.size≤4294967000:=Jz
   have arT:=hB1.size
   have hbx:=World.alloc_heap_new w1 (.cells (ae r d) 32)
   have hBb:Below w1.heap.size w1 (w1.alloc (.cells (ae r d) 32)):=TL _ _
   have hcell:=hr2
   go_wp2_with fail
   generalize (w1.alloc (.cells (ae r d) 32))=w2 at *
   have HE:=Lib.hid (he.later hBb)
   have HB2:=Lib.hid (ag hB1 hBb)
   refine(LU _ _ _ (hp.later hBb)).mono ?_
   rintro y w3 ⟨rfl,hb3⟩
   generalize AA (yF p)=c0
   cases c0
   ·go_wp2_with fail
    go_ret
    exact wu (ag HB2.out hb3)
   have PM:=aA hb3 hbx
   obtain⟨hc,hf,hr,yV⟩:=ai PM
   have hrn:row? w3 w1.heap.size 0 2=some (ak r.parts d.name):=by rw[hr];exact LH r d
   go_wp2_with fail
   refine(LU _ _ _ (HE.out.name.later hb3)).mono ?_
   rintro y w4 ⟨rfl,hb4⟩
   generalize AA (yF d.name)=c1
   cases c1
   ·go_wp2_with fail
    go_ret
    exact wu (ag (ag HB2.out hb3) hb4)
   have PN:=aA hb4 PM
   clear hc hf hr yV hrn
   obtain⟨hc,hf,hr,yV⟩:=ai PN
   have HB4:=Lib.hid (ag (ag HB2.out hb3) hb4)
   have Y9:Below w1.heap.size w1 w4:=ag hBb (ag hb3 hb4)
   have hr2':w4.cell? ⟨bA,oA+kk*33+23,none⟩=some (.string q.name):=(Y9.cell (p:=⟨bA,oA+kk*33+23,none⟩) oZ).trans hcell
   have arU:bA<w4.heap.size:=Nat.lt_of_lt_of_le oZ Y9.size
   have JA:=Lib.hid (HE.out.later (ag hb3 hb4))
   clear hr0 hr1 hr2 hcell hbx PM
   have HNO:=Lib.hid (fun z=>wu (n:=l.length) (most:=most) (w':=z):∀z,Below w.heap.size w z→BL l.length most w (.returned (.bool false)) z)
   go_wp2_with fail
   all_goals first
    |(go_ret;exact wu HB4.out)
    |skip
   obtain⟨rA,lA,sA,qA⟩:=aO.src JA.out.aliases DW
   obtain⟨rT,lT,sT,qT⟩:=aO.src JA.out.targets DW
   obtain⟨rD,lD,sD,qD⟩:=aO.src JA.out.bH DW
   have nA:d.aliases.length≤4:=by omega
   have nT:d.targets.length≤4:=by omega
   have nD:d.bH.length≤4:=by omega
   have LA:=Lib.hid lA
   have LT:=Lib.hid lT
   have LD:=Lib.hid lD
   have QA:=Lib.hid qA
   have QT:=Lib.hid qT
   have QD:=Lib.hid qD
   have SA:=Lib.hid sA
   have ST:=Lib.hid sT
   have SD:=Lib.hid sD
   clear lA lT lD qA qT qD sA sT sD hr2'
   have HO:=Lib.hid (Own.empty w4.drew 25 2)
   have HSA:=Lib.hid (SA.out.later (aC (Below.refl _ w4).drew (.cells #[] 25)))
   refine oP (fun _=>False) (But.refl _ w4) (by kernel_rfl) (by kernel_rfl) ?_
   repeat (first|(refine aP (by rfl) ?_)|(refine aN (by rfl) (by rfl) (fun K hK=>?_);go_big_quiet_op;refine hK _ ?_;clear hK K))
   refine aS (by rfl) (by rfl) (fun K hK=>?_)
   go_wp2_with fail
   refine hK _ _ (bI (But.of_below (aC (Below.refl _ w4).drew _))) ?_
   clear hK K
   repeat (first|(refine aP (by rfl) ?_)|(refine aN (by rfl) (by rfl) (fun K hK=>?_);go_big_quiet_op;refine hK _ ?_;clear hK K))
   refine aS (by rfl) (by rfl) (fun K hK=>?_)
   refine zG (.tmp 85) (.tmp 87) _ rfl Bd (n:=0) (s:=⟨some ⟨w4.heap.size,0,none⟩,0⟩) rfl rfl HO.out rfl LA.out.symm HSA.out (by rw[LA.out];simp;omega) (by simp) ?_
   intro s5 w5 hown5 hg5 al4
   have hb5:Below w4.heap.size w4 w5:=(aC (Below.refl _ w4).drew (.cells #[] 25)).grown hg5 (by simp) (fun k' e'=>by cases e';exact Nat.le_refl _)
   rw[List.nil_append]at hown5
   rw[Nat.zero_add]
   go_wp2_with fail
   refine hK _ _ (bI (But.of_below hb5)) ?_
   clear hK K
   repeat (first|(refine aP (by rfl) ?_)|(refine aN (by rfl) (by rfl) (fun K hK=>?_);go_big_quiet_op;refine hK _ ?_;clear hK K))
   refine aS (by rfl) (by rfl) (fun K hK=>?_)
   refine zG (.tmp 88) (.tmp 90) _ rfl Bd (n:=d.aliases.length) (s:=s5) rfl LA.out.symm hown5 rfl LT.out.symm (ST.out.later hb5) (by rw[LA.out,LT.out];omega) hb5.size ?_
   intro s6 w6 hown6 Za al5
   have hb6:Below w4.heap.size w4 w6:=EZ hown5 hb5 Za
   go_wp2_with fail
   refine hK _ _ (bI (But.of_below hb6)) ?_
   clear hK K
   repeat (first|(refine aP (by rfl) ?_)|(refine aN (by rfl) (by rfl) (fun K hK=>?_);go_big_quiet_op;refine hK _ ?_;clear hK K))
   refine aS (by rfl) (by rfl) (fun K hK=>?_)
   refine zG (.tmp 91) (.tmp 93) _ rfl Bd (n:=d.aliases.length+d.targets.length) (s:=s6) rfl (by rw[List.length_append,LA.out,LT.out]) hown6 rfl LD.out.symm (SD.out.later hb6) (by rw[List.length_append,LA.out,LT.out,LD.out];omega) hb6.size ?_
   intro s7 w7 Zb Zc al6
   have hb7:Below w4.heap.size w4 w7:=EZ hown6 hb6 Zc
   go_wp2_with fail
   refine hK _ _ (bI (But.of_below hb7)) ?_
   clear hK K
   repeat (first|(refine aP (by rfl) ?_)|(refine aN (by rfl) (by rfl) (fun K hK=>?_);go_big_quiet_op;refine hK _ ?_;clear hK K))
   refine bW ?_
   have oq:=Lib.hid (ag HB4.out hb7)
   obtain⟨L,hL⟩:∃L,L=d.aliases++d.targets++d.bH:=⟨_,rfl⟩
   have hLn:d.aliases.length+d.targets.length+d.bH.length=L.length:=by rw[hL];simp;omega
   rw[hLn]
   have hN:L.length≤12:=by omega
   have HP:=Lib.hid (show eG w7 s7.a L by
    have h:=(qB.append ⟨LA.out,QA.out⟩ ⟨LT.out,QT.out⟩).append ⟨LD.out,QD.out⟩
    rw[hL]
    exact(h.later hb7).alZ Zb (by unfold lim;simp;omega))
   have al7:=aA hb7 PN
   have HK7:=Lib.hid (JA.out.keys.later hb7)
   clear hL hLn hc hf hr yV hown5 hown6 Zb hg5 Za Zc al4 al5 al6 hb5 hb6 PN
   go_wp2_with fail
   go_loopw [8] (fun i wr=>Below w7.heap.size w7 wr∧∃k:Nat,k≤L.length∧i=.int .i64 k) (fun i _=>L.length-(intOf i).toNat)
   case atStart=>exact⟨Below.refl _ _,0,Nat.zero_le _,rfl⟩
   case round=>
    obtain⟨hbr,k,hk,rfl⟩:=hrel
    by_cases hlk:k<L.length
    ·obtain⟨g,o,t,ha,hrow,hpa⟩:=HP.out.get k hlk
     have al9:(k:Int)<(L.length:Int):=by omega
     have arW:g<w7.heap.size:=gq hrow
     obtain⟨s7a,s7c⟩:=s7
     dsimp only at ha
     subst ha
     obtain⟨hcc,aU,hrr⟩:=bf hbr
     go_wp2_with fail
     refine(LU _ _ _ (hpa.later hbr)).mono ?_
     rintro y w8 ⟨rfl,hb8⟩
     have oz:=ag hbr hb8
     clear hcc aU hrr
     generalize AA (yF L[k])=c2
     cases c2
     ·go_wp2_with fail
      go_ret
      exact wu (ag oq.out oz)
     go_wp2_with fail
     go_roundw
     case rel=>exact⟨oz,k+1,by omega,by go_num⟩
     case measure=>simp[intOf];omega
    ·have al9:¬(k:Int)<(L.length:Int):=by omega
     have zH:=Lib.hid (ag oq.out hbr)
     have HKr:=Lib.hid (HK7.out.later hbr)
     obtain⟨hc,hf,hr,yV⟩:=ai (aA hbr al7)
     have hc5:=(hc 5).trans (DU r d)
     clear hc hf hr
     go_wp2_with fail
     go_loop [9] (fun i=>∃k:Nat,k≤d.keys.length∧i=.int .i64 k) (fun i=>d.keys.length-(intOf i).toNat)
     case atStart=>exact⟨0,Nat.zero_le _,rfl⟩
     case round=>
      obtain⟨j,hj,rfl⟩:=hrel
      by_cases hjt:j<d.keys.length
      ·obtain⟨b2,o2,s2,ha2,hq2,hs2⟩:=HKr.out.get j hjt
       have acY:=gq hq2
       have hy1:wr.cell? ⟨b2,o2+j*5+1,none⟩=some (.slice s2.a d.keys[j].keys.length s2.cap):=by have:=gp hq2 1 (by omega);simpa[go_sem]using this
       have hy2:wr.cell? ⟨b2,o2+j*5+2,none⟩=some (.string d.keys[j].fP):=by have:=gp hq2 2 (by omega);simpa[go_sem]using this
       have hkl:d.keys[j].keys.length≤4294967000:=hs2.1.1
       have hsl:d.keys[j].fP.size≤4294967000:=hs2.2
       rw[ha2]at hc5
       by_cases hz1:d.keys[j].keys.length≤4
       case neg=>
        go_wp2_with fail
        go_ret
        exact wu zH.out
       by_cases hz2:d.keys[j].fP.size≤300
       case neg=>
        go_wp2_with fail
        go_ret
        exact wu zH.out
       go_wp2_with fail
       go_loop [10] (fun i=>∃n:Nat,n≤d.keys[j].keys.length∧i=.int .i64 n) (fun i=>d.keys[j].keys.length-(intOf i).toNat)
       case atStart=>exact⟨0,Nat.zero_le _,rfl⟩
       case round=>
        obtain⟨n,hn,rfl⟩:=hrel
        by_cases hnt:n<d.keys[j].keys.length
        ·obtain⟨b3,o3,s3,uJ,hq3,hs3⟩:=jR.get hs2.1 n hnt
         have arZ:=gq hq3
         have hy3:wr.cell? ⟨b3,o3+n*3+2,none⟩=some (.slice s3.a d.keys[j].keys[n].bytes.length s3.cap):=by have:=gp hq3 2 (by omega);simpa[go_sem]using this
         have hbl:d.keys[j].keys[n].bytes.length≤4294967000:=hs3.1
         rw[uJ]at hy1
         by_cases hz3:d.keys[j].keys[n].bytes.length≤300
         case neg=>
          go_wp2_with fail
          go_ret
          exact wu zH.out
         go_wp2_with fail
         go_round
         case rel=>exact⟨n+1,by omega,by go_num⟩
         case measure=>simp[intOf];omega
        ·obtain rfl:n=d.keys[j].keys.length:=by omega
         go_wp2_with fail
         go_round
         case rel=>exact⟨j+1,by omega,by go_num⟩
         case measure=>simp[intOf];omega
      ·obtain rfl:j=d.keys.length:=by omega
       go_wp2_with fail
       go_roundw
       case rel=>exact⟨kk+1,by omega,by go_num,zH.out⟩
       case measure=>simp[intOf];omega
  ·obtain rfl:kk=l.length:=by omega
   go_wp2_with fail
   go_ret
   exact⟨true,rfl,fun _=>HM.out,hB1⟩
theorem Zd(a:Option Addr)(cap:Nat)(l:List dL)(most:Int)(w:World)(hl:pF w a l):Calls Tryz.prog 4 #[.slice a l.length cap,.int .i64 most] w (BL l.length most w):=by
 by_cases hn:most<(l.length:Int)
 ·exact al0 a cap l.length most w hn
 ·rcases aO.addr hl with h0|⟨bA,oA,rfl,hb⟩
  ·exact al1 a cap l.length most w h0 hn
  ·exact al2 bA oA cap l most w hl hn
theorem six{P:Prop}{k:Nat}(k0:k % 6=0→P)(k1:k % 6=1→P)(k2:k % 6=2→P)(k3:k % 6=3→P)(k4:k % 6=4→P)(k5:k % 6=5→P):P:=by
 rcases(by omega:k % 6=0∨k % 6=1∨k % 6=2∨k % 6=3∨k % 6=4∨k % 6=5)with h|h|h|h|h|h
 ·exact k0 h
 ·exact k1 h
 ·exact k2 h
 ·exact k3 h
 ·exact k4 h
 ·exact k5 h
theorem PO(S:Nat→Prop)(b n e p:Nat)(re:ByteArray)(es ps:Sl)(D:Db)(X:List EE)(N:Nat)(W0:World)(z:dw)(x:dL)(w:World)(h:kN S b n e p re es ps D X N w)(hre:¬re=⟨#[]⟩)(hN:N<60)(hW:Below W0.heap.size W0 w)(hx:sF W0 z x)(hS0:∀k,S k→W0.heap.size≤k):Calls Tryz.prog 9 #[.pointer (some ⟨b,0,none⟩),.agg (aj es ps D),.agg (dM z x)] w (Y5 S b n e p re N w):=by
 obtain⟨NL,E,P,hP0,hR0⟩:=h.ex
 have hd0:=h.d0
 have hd1:=h.d1
 have hn1:=h.n1
 have hn2:=h.n2
 have hPl:P.length<64:=by have:=hR0.eu.perm.length_eq;omega
 have n0:∀k,w.heap.size≤k→¬aX b n e p k:=fun k hk hd=>by have:=hP0.lt k hd;omega
 have HH:=Lib.hid h
 have BM:=Lib.hid hP0
 have HR0:=Lib.hid hR0
 have HX:=Lib.hid hx
 have N0:=Lib.hid n0
 have PQ:=Lib.hid hS0
 clear h hP0 hR0 hx n0 hS0
 go_enter Tryz.func9,Tryz.ntmps9
 go_step
 apply YE (M:=fun V=>Below w.heap.size w V∧V.heap[w.heap.size]?=some (.cells (aj es ps D) 44)∧V.heap[w.heap.size+1]?=some (.cells (dM z x) 37)∧V.heap[w.heap.size+2]?=some (.cells (aj aQ aQ iP) 44)∧w.heap.size+3≤V.heap.size)
 case h1=>
  go_wp2_with fail
  rw[←Jn]
  exact⟨rfl,⟨aC (aC (aC (Below.refl _ w) _) _) _,by rw[Below.heap_alloc _ _ _ (by simp;omega)];exact lS w _ _,by have:=lS (w.alloc (.cells (aj es ps D) 44)) (.cells (dM z x) 37) (.cells (aj aQ aQ iP) 44);simpa using this,by have:=World.alloc_heap_new ((w.alloc (.cells (aj es ps D) 44)).alloc (.cells (dM z x) 37)) (.cells (aj aQ aQ iP) 44);simpa using this,by simp⟩⟩
 rintro V0 ⟨hB0,hv4,hv5,hv6,hs0⟩
 iterate 3 go_step
 obtain⟨hc5,hf5,zD,hl5⟩:=ai hv5
 apply BH (M:=fun(a8:Nat) V=>Below V0.heap.size V0 V∧w.heap.size+3≤a8∧V.heap[a8]?=some (.cells (mi x) 33))
 case h1=>
  go_wp2_with fail
  refine⟨V0.heap.size,?_,⟨aC (Below.refl _ V0) _,hs0,World.alloc_heap_new V0 _⟩⟩
  generalize V0.heap.size=a8
  rfl
 rintro a8 V1 ⟨hB1,ha8,zI⟩
 have hx4:=aA hB1 hv4
 have hx5:=aA hB1 hv5
 have hx6:=aA hB1 hv6
 have iE:=ag hB0 hB1
 have ar1:a8<V1.heap.size:=(Array.getElem?_eq_some_iff.1 zI).1
 have hs1:w.heap.size+3<V1.heap.size:=by omega
 have hW1:Below W0.heap.size W0 V1:=hW.trans (iE.mono hW.size)
 have hWs:=hW.size
 clear hc5 hf5 zD hl5 hv4 hv5 hv6 hB0 hB1 hs0
 obtain⟨hc4,hf4,hr4,hl4⟩:=ai hx4
 obtain⟨hc5,hf5,zD,hl5⟩:=ai hx5
 obtain⟨hc8,I5,uB,JB⟩:=ai zI
 refine six (k:=x.k.toNat) ?k0 ?k1 ?k2 ?k3 ?k4 ?k5
 case' k0=>
  intro hk
  have lg:((x.k.toNat:Int).tmod 6)=0:=by rw[Int.tmod_eq_emod_of_nonneg (by omega)];omega
 case' k1=>
  intro hk
  have lg:((x.k.toNat:Int).tmod 6)=1:=by rw[Int.tmod_eq_emod_of_nonneg (by omega)];omega
 case' k2=>
  intro hk
  have lg:((x.k.toNat:Int).tmod 6)=2:=by rw[Int.tmod_eq_emod_of_nonneg (by omega)];omega
 case' k3=>
  intro hk
  have lg:((x.k.toNat:Int).tmod 6)=3:=by rw[Int.tmod_eq_emod_of_nonneg (by omega)];omega
 case' k4=>
  intro hk
  have lg:((x.k.toNat:Int).tmod 6)=4:=by rw[Int.tmod_eq_emod_of_nonneg (by omega)];omega
 case' k5=>
  intro hk
  have lg:((x.k.toNat:Int).tmod 6)=5:=by rw[Int.tmod_eq_emod_of_nonneg (by omega)];omega
 case' k2|k3|k4|k5=>
  obtain⟨S1,hS1⟩:∃S1:Nat→Prop,S1=fun k=>S k∨span w.heap.size V1.heap.size k:=⟨_,rfl⟩
  have jL:=Lib.hid hS1
  clear hS1
  have hwc:w.heap.size<V1.heap.size:=by omega
  have amb:w.heap.size+2<V1.heap.size:=by omega
  have PR:=Lib.hid (show ∀k,S1 k→k<V1.heap.size from fun k hk=>by
   rw[jL.out]at hk
   rcases hk with hk|hk
   ·have:=HH.out.lt k hk;omega
   ·exact hk.2)
  have hP1:jm S1 b n e p re D.ay NL E P V1:=(BM.out.grow (S':=S1) (fun k hk hlt=>by rw[jL.out]at hk;exact hk.elim id fun h=>by have:=h.1;omega) (fun k hk=>by rw[jL.out];exact .inl hk)).later iE
 case' k2=>
  obtain⟨no,D',X',hst⟩:=ajN D X x.q
  go_wp2_with fail
  refine(akd S1 b n e p re D.ay NL E P D D' X X' no V1 z.t x.q hP1 hre HR0.out hst (HX.out.BJ.later hW1) hd0 (by omega)).mono ?_
  rintro y w3 ⟨rfl,qC,mf,E',P',hP3,jU⟩
  dsimp only
 case' k3=>
  obtain⟨no,D',X',hst⟩:=ajO D X x.q x.a x.b x.c
  go_wp2_with fail
  refine(ake S1 b n e p re D.ay NL E P D D' X X' no V1 z.t x.q x.a x.b x.c hP1 hre HR0.out hst (HX.out.BJ.later hW1) hd0 (by omega)).mono ?_
  rintro y w3 ⟨rfl,qC,mf,E',P',hP3,jU⟩
  dsimp only
 case' k4=>
  obtain⟨no,D',hst⟩:=ajL D x.p
  go_wp2_with fail
  refine(akc S1 b n e p re D.ay NL E P D D' X no V1 x.p hP1 hre HR0.out hst HX.out.Jy hPl hd0 (by omega)).mono ?_
  rintro y w3 ⟨rfl,qC,mf,E',P',hP3,jU⟩
  dsimp only
 case' k5=>
  obtain⟨no,D',hst⟩:=ajP D x.p.name
  go_wp2_with fail
  refine(akf S1 b n e p re D.ay NL E P D D' X no V1 x.p.name hP1 hre HR0.out hst hd0 (by omega)).mono ?_
  rintro y w3 ⟨rfl,qC,mf,E',P',hP3,jU⟩
  dsimp only
 case' k0|k1=>
  obtain⟨no,D',X',hst⟩:=ajM D HR0.out.BB z.r x.d
  go_wp2_with fail
  refine(akX W0 z.r x.d V1 hW1 HX.out.EX).mono ?_
  rintro y w1 ⟨r',rfl,hb1,hE1⟩
  dsimp only
  have hs1':V1.heap.size≤w1.heap.size:=hb1.size
  have Ze:=Lib.hid hE1
  clear hE1
  obtain⟨S1,hS1⟩:∃S1:Nat→Prop,S1=fun k=>S k∨span w.heap.size w1.heap.size k:=⟨_,rfl⟩
  have jL:=Lib.hid hS1
  clear hS1
  have hwc:w.heap.size<w1.heap.size:=by omega
  have amb:w.heap.size+2<w1.heap.size:=by omega
  have PR:=Lib.hid (show ∀k,S1 k→k<w1.heap.size from fun k hk=>by
   rw[jL.out]at hk
   rcases hk with hk|hk
   ·have:=HH.out.lt k hk;omega
   ·exact hk.2)
  have hP1:jm S1 b n e p re D.ay NL E P V1:=(BM.out.grow (S':=S1) (fun k hk hlt=>by rw[jL.out]at hk;exact hk.elim id fun h=>by have:=h.1;omega) (fun k hk=>by rw[jL.out];exact .inl hk)).later iE
  have hB2:Below V1.heap.size V1 (w1.alloc (.cells (ae r' x.d) 32)):=aC hb1 _
  have hnew:=World.alloc_heap_new w1 (.cells (ae r' x.d) 32)
  have JC:Below w1.heap.size w1 (w1.alloc (.cells (ae r' x.d) 32)):=aC (Below.refl _ w1) _
  go_wp2_with fail
  generalize w1.alloc (.cells (ae r' x.d) 32)=w2 at *
  refine(akb S1 b n e p re D.ay NL E P D D' X X' no w2 z.r x.d r' (hP1.later hB2) hre HH.out.aG HR0.out hst (Ze.out w2 (But.of_below JC)).at_ (fun k hk=>Nat.lt_of_lt_of_le (PR.out k hk) JC.size) (by omega) hd0 (by omega)).mono ?_
  rintro y w3 ⟨rfl,JD,mf,E',P',hP3,jU⟩
  dsimp only
  have qC:But (aX b n e p) V1 w3:=(But.of_below hB2).trans JD
  have amc:¬aX b n e p w1.heap.size:=N0.out _ (by omega)
  have amd:w3.heap[w1.heap.size]?=some (.cells (ae r' x.d) 32):=(JD.block _ (Array.getElem?_eq_some_iff.1 hnew).1 amc).trans hnew
  have hE3:But (fun k=>W0.heap.size≤k∧k<V1.heap.size) w1 w3:=(But.of_below JC).trans (JD.mono fun k hk=>⟨PQ.out k (BM.out.sub k hk),by have:=BM.out.lt k hk;omega⟩)
  have ar2:w1.heap.size≤w2.heap.size:=JC.size
  have ar4:w2.heap.size≤w3.heap.size:=JD.size
 all_goals
  have hy4:w3.heap[w.heap.size]?=some (.cells (aj es ps D) 44):=(qC.block _ hl4 (N0.out _ (Nat.le_refl _))).trans hx4
  have Ej:w3.heap[w.heap.size+1]?=some (.cells (dM z x) 37):=(qC.block _ hl5 (N0.out _ (by omega))).trans hx5
  have hy8:w3.heap[a8]?=some (.cells (mi x) 33):=(qC.block _ JB (N0.out _ (by omega))).trans zI
  have hy6:w3.heap[w.heap.size+2]?=some (.cells (aj aQ aQ iP) 44):=(qC.block _ (by omega) (N0.out _ (by omega))).trans hx6
  clear hc4 hf4 hr4 hl4 hc5 hf5 zD hl5 hc8 I5 uB JB
  obtain⟨hc4,hf4,hr4,hl4⟩:=ai hy4
  obtain⟨hc5,hf5,zD,hl5⟩:=ai Ej
  obtain⟨hc8,I5,uB,JB⟩:=ai hy8
  have hB3:But (aX b n e p) w w3:=(But.of_below iE).trans qC
  have hs3:V1.heap.size≤w3.heap.size:=qC.size
  have hW3:Below W0.heap.size W0 w3:=hW1.trans (qC.below (by omega) (fun k hk=>PQ.out k (BM.out.sub k hk)))
  have hF3:gW S1 es ps D X w3:=((HH.out.ref.grow (S':=S1) (fun k hk hlt=>by rw[jL.out]at hk;exact hk.elim id fun h=>by have:=h.1;omega)).later iE).on (qC.mono fun k hk=>by rw[jL.out];exact .inl (BM.out.sub k hk))
  have BN:=Lib.hid (show ∀k,S1 k→k<w3.heap.size from fun k hk=>by
   have:=PR.out k hk
   omega)
 case' k2=>
  go_wp2_with fail
  refine(akJ S1 es ps D X w3 z.t x.q hF3 BN.out (HX.out.BJ.later hW3) HR0.out.eq hd0 (by omega)).mono ?_
  rintro y w4 ⟨xW,es',D2,X2,rfl,hb4,Fb,hst2⟩
  obtain⟨rfl,rfl,rfl⟩:=aj8 HR0.out.BB hst hst2
  dsimp only
  have Fe:=alA hst
  obtain⟨ps',hq⟩:∃q,q=ps:=⟨_,rfl⟩
  subst hq
 case' k3=>
  go_wp2_with fail
  refine(akK S1 es ps D X w3 z.t x.q x.a x.b x.c hF3 BN.out (HX.out.BJ.later hW3) HR0.out.eq HR0.out.BB hd0 (by omega)).mono ?_
  rintro y w4 ⟨xW,es',D2,X2,rfl,hb4,Fb,hst2⟩
  obtain⟨rfl,rfl,rfl⟩:=aj9 hst hst2
  dsimp only
  have Fe:=alB hst
  obtain⟨ps',hq⟩:∃q,q=ps:=⟨_,rfl⟩
  subst hq
 case' k4=>
  go_wp2_with fail
  refine(ajv S1 es ps D X x.p w3 hF3 BN.out HX.out.Jy (by omega) hd0 (by omega)).mono ?_
  rintro y w4 ⟨xW,ps',D2,rfl,hb4,Fb,hst2⟩
  obtain⟨rfl,rfl⟩:=aj3 HR0.out.eu.nodup hst hst2
  dsimp only
  have Fe:=alC X HR0.out.eu.nodup hst
  obtain⟨es',hq⟩:∃q,q=es:=⟨_,rfl⟩
  subst hq
  obtain⟨X',hq⟩:∃q,q=X:=⟨_,rfl⟩
  subst hq
 case' k5=>
  go_wp2_with fail
  refine(akL S1 es ps D X w3 x.p.name hF3 BN.out HR0.out.eq HR0.out.eu.nodup hd0 (by omega)).mono ?_
  rintro y w4 ⟨xW,ps',D2,rfl,hb4,Fb,hst2⟩
  obtain⟨rfl,rfl⟩:=aka HR0.out.eu.nodup hst hst2
  dsimp only
  have Fe:=alD X hst
  obtain⟨es',hq⟩:∃q,q=es:=⟨_,rfl⟩
  subst hq
  obtain⟨X',hq⟩:∃q,q=X:=⟨_,rfl⟩
  subst hq
 case' k0|k1=>
  go_wp2_with fail
  refine(ajw S1 es ps D X z.r x.d w3 hF3 BN.out (fun y hy=>HX.out.EX.later (hW3.trans (hy.below (by omega) (fun k hk=>by rw[jL.out]at hk;exact hk.elim (PQ.out k) fun h=>by have:=h.1;omega)))) HR0.out.eq HR0.out.BB (by omega) hd0 (by omega)).mono ?_
  rintro y w4 ⟨xW,es',D2,X2,rfl,hb4,Fb,hst2⟩
  obtain⟨rfl,rfl,rfl⟩:=aj6 HR0.out.BB hst hst2
  dsimp only
  have Fe:=alz hst
  obtain⟨ps',hq⟩:∃q,q=ps:=⟨_,rfl⟩
  subst hq
 all_goals
  have hw4:=ag (Below.refl _ w3) hb4
  have Ei:=aA hb4 hy4
  have Ny:=aA hb4 hy6
  have Zf:aJ w4 w.heap.size 0 4=true:=nO Ei (by simp[go_sem])
  have Ff:(putRow w4 w.heap.size 0 (aj es' ps' D')).heap[w.heap.size]?=some (.cells (aj es' ps' D') 44):=(pX Ei (by simp[go_sem])).trans (by rw[Az (by simp[go_sem])])
  have Fg:(putRow w4 w.heap.size 0 (aj es' ps' D')).heap[w.heap.size+2]?=some (.cells (aj aQ aQ iP) 44):=(jh (by omega)).trans Ny
  have Zg:But (fun k=>w.heap.size≤k∧S1 k) w3 (putRow w4 w.heap.size 0 (aj es' ps' D')):=(But.of_below hw4).put ⟨Nat.le_refl _,by rw[jL.out];exact .inr ⟨Nat.le_refl _,hwc⟩⟩
  have Zh:gW S1 es' ps' D' X' (putRow w4 w.heap.size 0 (aj es' ps' D')):=Fb.on ((But.refl _ w4).put (by rw[jL.out];exact .inr ⟨Nat.le_refl _,hwc⟩))
  clear hc4 hf4 hr4 hl4 hc5 hf5 zD hl5 hc8 I5 uB JB
 case' k0|k1=>
  have amh:=aA hb4 amd
  have Zi:(putRow w4 w.heap.size 0 (aj es' ps' D')).heap[w1.heap.size]?=some (.cells (ae r' x.d) 32):=(jh (by omega)).trans amh
  have ami:row? (putRow w4 w.heap.size 0 (aj es' ps' D')) w1.heap.size 0 17=some (ae r' x.d):=by rw[bV Zi];exact dH (by simp[go_sem])
  have hE5:pz (span V1.heap.size w1.heap.size) (putRow w4 w.heap.size 0 (aj es' ps' D')) r' x.d:=Ze.out _ (hE3.trans (((But.of_below hw4).put (S:=fun k=>W0.heap.size≤k∧k<V1.heap.size) ⟨by omega,by omega⟩)))
  go_wp2_with fail
  generalize (putRow w4 w.heap.size 0 (aj es' ps' D'))=U0 at *
  refine(O4 (span V1.heap.size w1.heap.size) r' x.d U0 hE5).mono ?_
  rintro y U ⟨rfl,fA⟩
  dsimp only
  have PS:=Ff
  have PT:=Fg
  clear Ff Fg Zi ami
  have Ff:U.heap[w.heap.size]?=some (.cells (aj es' ps' D') 44):=(fA.block _ (Array.getElem?_eq_some_iff.1 PS).1 (fun h=>by have:=h.1;omega)).trans PS
  have Fg:U.heap[w.heap.size+2]?=some (.cells (aj aQ aQ iP) 44):=(fA.block _ (Array.getElem?_eq_some_iff.1 PT).1 (fun h=>by have:=h.1;omega)).trans PT
  have Zj:=Zg.trans (fA.mono fun k hk=>(⟨by have:=hk.1;omega,by rw[jL.out];exact .inr ⟨by have:=hk.1;omega,hk.2⟩⟩:w.heap.size≤k∧S1 k))
  have Zk:=Zh.on (fA.mono fun k hk=>by rw[jL.out];exact .inr ⟨by have:=hk.1;omega,hk.2⟩)
  clear PS PT Zf
  go_wp2_with fail
 case' k2|k3|k4|k5=>
  have HG5:=Lib.hid Zf
  go_wp2_with fail
  generalize (putRow w4 w.heap.size 0 (aj es' ps' D'))=U at *
  have Zj:=Zg
  have Zk:=Zh
 all_goals
  obtain⟨hc4,hf4,hr4,hl4⟩:=ai Ff
  have hru:row? U w.heap.size 0 4=some (aj es' ps' D'):=by rw[bV Ff];exact dH (by simp[go_sem])
  have hcu:aJ U (w.heap.size+2) 0 4=true:=nO Fg (by simp[go_sem])
  have ar7:w.heap.size+2<U.heap.size:=(Array.getElem?_eq_some_iff.1 Fg).1
  have m4:¬one (w.heap.size+2) w.heap.size:=aT (by omega)
  clear hc4 hf4 hr4
  refine oP (one (w.heap.size+2)) (But.refl _ U) (by kernel_rfl) (by kernel_rfl) ?_
  repeat (first|(refine aP (by rfl) ?_)|(refine aN (by rfl) (by rfl) (fun K hK=>?_);go_big_quiet_op;refine hK _ ?_;clear hK K))
  refine aS (by rfl) (by rfl) (fun K hK=>?_)
  go_wp2_with fail
  refine(PK _ U.drew).mono ?_
  rintro y v ⟨rfl,rfl⟩
  dsimp only
  refine hK _ _ (bI (But.refl _ U).drew) ?_
  clear hK K
  repeat (first|(refine aP (by rfl) ?_)|(refine aN (by rfl) (by rfl) (fun K hK=>?_);go_big_quiet_op;refine hK _ ?_;clear hK K))
  refine aS (by rfl) (by rfl) (fun K hK=>?_)
  go_wp2_with fail
  refine hK _ _ (bI ((But.refl _ U).drew.put rfl)) ?_
  clear hK K
  repeat (first|(refine aP (by rfl) ?_)|(refine aN (by rfl) (by rfl) (fun K hK=>?_);go_big_quiet_op;refine hK _ ?_;clear hK K))
  refine bW ?_
  go_wp2_with fail
  have hrow:=iV (w:=U.drew) (iT es' ps' D') hcu
  have PU:But (fun k=>w.heap.size≤k∧S1 k) w3 (putRow U.drew (w.heap.size+2) 0 (aj es' ps' D')):=Zj.trans ((But.refl _ U).drew.put ⟨by omega,by rw[jL.out];exact .inr ⟨by omega,by omega⟩⟩)
  refine bodyPost_ret (kX (by rfl) Tryz.underlying44 rfl (by kernel_rfl) rfl hrow) rfl ?_
  refine alK HH.out (by rfl) Fe hP3 jU (Zk.on ((But.refl _ U).drew.put (by rw[jL.out];exact .inr ⟨by omega,by omega⟩))) (fun k hk=>by rw[jL.out]at hk;exact hk.imp id (·.1)) (fun k hk=>by rw[jL.out];exact .inl hk) (fun k hk=>Nat.lt_of_lt_of_le (BN.out k hk) PU.size) PU (fun k hk=>hk.2) (fun k hk=>hk.1) (hB3.past PU (fun k hk=>hk.1))
end Go.Proofs.YtaghcadlgbnbdaaGreatDoor
namespace Go.WW
open Go.RowKit
theorem aml{ι κ μ ν:Type}{c:Code}{P:Program}{Q:Exit→Act→World→Prop}{a:Act}{w:World}(M:ι→κ→μ→ν→World→Prop)(F:ι→κ→μ→ν→Act)
  (h1:c.wp P (fun e a' w'=>e=.normal∧∃i j k l,a'=F i j k l∧O5 (M i j k l) w') a w) (h2:∀i j k l w',M i j k l w'→Q .normal (F i j k l) w'):c.wp P Q a w:=by
 refine wp_mono h1 ?_
 rintro e a' w' ⟨rfl,i,j,k,l,rfl,h⟩
 exact h2 i j k l w' h.out
theorem amm{P:Program}{id:Nat}{Q':Exit→Act→World→Prop}{a:Act}{W w:World}{l:List Oper}(x c:Nat)(idx:List Nat)(S:Nat→Prop)(hW:But S W w)(hm:P.follows .mixedOrders=true)(hB:Ep eU l.toArray x c=true)(hi:mv x c (List.range l.toArray.size)=idx)
  (h:aF P l.toArray eU (mX S W) (fun a' w'=>Q' .normal a' w') l a w.drew)
  (h2:aF P l.toArray eU (mX S W) (fun a' w'=>Q' .normal a' w') (pick l idx) a w.drew):(Code.region id l.toArray true).wp P Q' a w:=
 Wx (mX S W) eU x c idx hm hB hi ⟨⟨w.drew,hW.drew⟩,rfl⟩ h h2
end Go.WW
namespace Go.Proofs.YtaghcadlgbnbdaaGreatDoor
open Go.RowKit Go.WW
theorem kN.later{S:Nat→Prop}{b n e p:Nat}{re:ByteArray}{es ps:Sl}{D:Db}{X:List EE}{N:Nat}{w w':World}(h:kN S b n e p re es ps D X N w)(hb:Below w.heap.size w w'):kN S b n e p re es ps D X N w':=by
 obtain⟨NL,E,P,h1,h2⟩:=h.ex
 exact⟨⟨NL,E,P,h1.later hb,h2⟩,h.ref.later hb,h.aG,fun k hk=>Nat.lt_of_lt_of_le (h.lt k hk) hb.size,h.sort,h.d0,h.d1,h.n1,h.n2⟩
theorem kN.off{S T:Nat→Prop}{b n e p:Nat}{re:ByteArray}{es ps:Sl}{D:Db}{X:List EE}{N:Nat}{w w':World}(h:kN S b n e p re es ps D X N w)(hb:But T w w')(hT:∀k,T k→S k∧¬aX b n e p k):kN S b n e p re es ps D X N w':=by
 obtain⟨NL,E,P,h1,h2⟩:=h.ex
 exact⟨⟨NL,E,P,h1.off hb (fun k hk=>(hT k hk).1) (fun k hk=>(hT k hk).2),h2⟩,h.ref.on (hb.mono fun k hk=>(hT k hk).1),h.aG,fun k hk=>Nat.lt_of_lt_of_le (h.lt k hk) hb.size,h.sort,h.d0,h.d1,h.n1,h.n2⟩
theorem kN.wide{S S':Nat→Prop}{b n e p:Nat}{re:ByteArray}{es ps:Sl}{D:Db}{X:List EE}{N:Nat}{w w':World}(h:kN S b n e p re es ps D X N w)(hb:Below w.heap.size w w')(hS:∀k,S' k→S k∨w.heap.size≤k)(hsub:∀k,S k→S' k)(hlt:∀k,S' k→k<w'.heap.size):kN S' b n e p re es ps D X N w':=by
 obtain⟨NL,E,P,h1,h2⟩:=h.ex
 have hg:∀k,S' k→k<w.heap.size→S k:=fun k hk hlt=>by
  rcases hS k hk with h|h
  ·exact h
  ·omega
 exact⟨⟨NL,E,P,(h1.grow hg hsub).later hb,h2⟩,(h.ref.grow hg).later hb,h.aG,hlt,h.sort,h.d0,h.d1,h.n1,h.n2⟩
theorem Zl{S:Nat→Prop}{b n e p:Nat}{w:World}(h:bT w b n e p fJ 0 [] [] [])(hsub:∀k,aX b n e p k→S k)(hlt:∀k,S k→k<w.heap.size):kN S b n e p fJ aQ aQ (iH fJ) [] 0 w:=
 ⟨⟨[],[],[],⟨h,by simp,hsub⟩,aj0⟩,⟨fun y _=>⟨⟨by simp[lim],fun i hi=>by simp at hi⟩,by simp⟩,fun y _=>⟨by simp[iH,lim],fun i hi=>by simp[iH]at hi⟩,by simp[iH]⟩,rfl,hlt,List.Pairwise.nil,by simp[iH],by simp[iH],by simp,by simp[iH]⟩
theorem bT.Zm{w:World}{b n e p:Nat}{re:ByteArray}{s:Int}{N:List (ByteArray×Value)}{E:List EE}{P:List ah}(h:bT w b n e p re s N E P):∀k,aX b n e p k→k<w.heap.size:=fun k hk=>by
 rcases hk with rfl|rfl|rfl|rfl
 ·exact(Array.getElem?_eq_some_iff.1 h.box).1
 ·exact h.nm.lt
 ·exact h.em.lt
 ·exact h.pm.lt
structure zJ(w0:World)(T3 T7 b n e p:Nat)(k:Nat)(S:Nat→Prop)(es ps:Sl)(D:Db)(X:List EE)(wr:World):Prop where
 box:wr.heap[T7]?=some (.cells (aj es ps D) 44)
 res:wr.heap[T3]?=some (.cells (aj aQ aQ iP) 44)
 xX:kN S b n e p fJ es ps D X k wr
 out:Below w0.heap.size w0 wr
 fr:∀j,S j→w0.heap.size≤j
 BO:∀j,aX b n e p j→j≠T3∧j≠T7
 b3:w0.heap.size≤T3
 b7:w0.heap.size≤T7
 ne:T3≠T7
 PV:S T3
 in7:S T7
def PW(N:Nat)(w:World)(z:Ending)(w':World):Prop:=
 ∃S b n e p es ps D X,z=.returned (.tuple #[.pointer (some ⟨b,0,none⟩),.agg (aj es ps D),.bool true])∧Below w.heap.size w w'∧kN S b n e p fJ es ps D X N w'∧∀k,S k→w.heap.size≤k
theorem zJ.next{w0:World}{T3 T7 b n e p k:Nat}{S S':Nat→Prop}{es ps es' ps':Sl}{D D':Db}{X X':List EE}{wr V:World}(h:zJ w0 T3 T7 b n e p k S es ps D X wr)(hb:But (aX b n e p) wr V)(hd:kN S' b n e p fJ es' ps' D' X' (k+1) V)(hS:∀j,S' j→S j∨wr.heap.size≤j)(hSS:∀j,S j→S' j) :
  zJ w0 T3 T7 b n e p (k+1) S' es' ps' D' X' (putRow V T7 0 (aj es' ps' D')):=by
 have l3:T3<wr.heap.size:=(Array.getElem?_eq_some_iff.1 h.res).1
 have l7:T7<wr.heap.size:=(Array.getElem?_eq_some_iff.1 h.box).1
 obtain⟨_,_,_,hp,_⟩:=h.xX.ex
 have m3:¬aX b n e p T3:=fun hj=>(h.BO _ hj).1 rfl
 have m7:¬aX b n e p T7:=fun hj=>(h.BO _ hj).2 rfl
 have hbx:V.heap[T7]?=some (.cells (aj es ps D) 44):=(hb.block _ l7 m7).trans h.box
 have hrs:V.heap[T3]?=some (.cells (aj aQ aQ iP) 44):=(hb.block _ l3 m3).trans h.res
 have PX:But (one T7) V (putRow V T7 0 (aj es' ps' D')):=(But.refl _ _).put rfl
 refine⟨?_,(PX.block _ (Array.getElem?_eq_some_iff.1 hrs).1 (aT h.ne)).trans hrs,hd.off PX (fun j (hj:j=T7)=>⟨hj▸hSS _ h.in7,hj▸m7⟩),?_,fun j hj=>?_,h.BO,h.b3,h.b7,h.ne,hSS _ h.PV,hSS _ h.in7⟩
 ·have:=pX (o:=0) (cs:=aj es' ps' D') hbx (by simp[iT])
  rwa[Az (by simp[iT])]at this
 ·have h1:But (aX b n e p) w0 V:=(But.of_below h.out).trans hb
  have h2:But (fun j=>w0.heap.size≤j) w0 (putRow V T7 0 (aj es' ps' D')):=(h1.mono fun j hj=>h.fr j (hp.sub j hj)).trans (PX.mono fun j (hj:j=T7)=>hj▸h.b7)
  exact h2.below (Nat.le_refl _) fun j hj=>hj
 ·rcases hS j hj with h1|h1
  ·exact h.fr j h1
  ·have:=h.out.size;omega
theorem amn(bA oA cap:Nat)(l:List dL)(w:World)(hl:pF w (some ⟨bA,oA,none⟩) l)(hn:l.length<50):Calls Tryz.prog 6 #[.slice (some ⟨bA,oA,none⟩) l.length cap] w (PW l.length w):=by
 have HL:=Lib.hid hl
 clear hl
 have hz3:=World.alloc_heap_new w (.cells (aj aQ aQ iP) 44)
 have hB3:Below w.heap.size w (w.alloc (.cells (aj aQ aQ iP) 44)):=aC (Below.refl _ w) _
 go_enter Tryz.func6,Tryz.ntmps6
 go_wp2_with fail
 rw[←Jn]
 generalize (w.alloc (.cells (aj aQ aQ iP) 44))=V3 at *
 refine(W9 fJ V3 (by simp[lim,ByteArray.size]) Jm).mono ?_
 rintro y w1 ⟨b,n,e,p,rfl,hb1,oC,l1,l2,l4,l5⟩
 dsimp only
 go_wp2_with fail
 refine(Yr fJ w1 (by simp[lim,ByteArray.size]) Jm).mono ?_
 rintro y w2 ⟨rfl,hb2⟩
 dsimp only
 have hx7:=World.alloc_heap_new w2 (.cells (aj aQ aQ (iH fJ)) 44)
 have wz:Below w1.heap.size w1 (w2.alloc (.cells (aj aQ aQ (iH fJ)) 44)):=aC hb2 _
 have hx3:=aA wz (aA hb1 hz3)
 have Fh:=oC.later wz
 have hB:=ag hB3 (ag hb1 wz)
 have hs3:w.heap.size<V3.heap.size:=(Array.getElem?_eq_some_iff.1 hz3).1
 have hs1:=hb1.size
 have hs2:=hb2.size
 have hV:zJ w w.heap.size w2.heap.size b n e p 0 (fun j=>aX b n e p j∨j=w.heap.size∨j=w2.heap.size) aQ aQ (iH fJ) [] (w2.alloc (.cells (aj aQ aQ (iH fJ)) 44)):=by
  have hof:∀j,aX b n e p j→V3.heap.size≤j∧j<w1.heap.size:=fun j hj=>⟨by rcases hj with rfl|rfl|rfl|rfl<;>assumption,oC.Zm j hj⟩
  have hs7:w2.heap.size<(w2.alloc (.cells (aj aQ aQ (iH fJ)) 44)).heap.size:=by simp
  refine⟨hx7,hx3,Zl Fh (fun j hj=>.inl hj) (fun j hj=>?_),hB,fun j hj=>?_,fun j hj=>?_,Nat.le_refl _,by omega,by omega,.inr (.inl rfl),.inr (.inr rfl)⟩
  ·rcases hj with hj|rfl|rfl
   ·have:=hof j hj;omega
   ·omega
   ·exact hs7
  ·rcases hj with hj|rfl|rfl
   ·have:=hof j hj;omega
   ·omega
   ·omega
  ·have:=hof j hj;omega
 clear oC Fh l1 l2 l4 l5 hx3 hz3 hB hB3 hb1
 have PY:w2.heap.size<(w2.alloc (.cells (aj aQ aQ (iH fJ)) 44)).heap.size:=by simp
 go_wp2_with fail
 generalize (w2.alloc (.cells (aj aQ aQ (iH fJ)) 44))=V7 at *
 generalize w2.heap.size=T7 at *
 refine(PK _ _).mono ?_
 rintro y w' ⟨rfl,rfl⟩
 dsimp only
 go_wp2_with fail
 clear hx7 wz
 go_loopw [9] (fun iv wr=>∃(k:Nat) (S:Nat→Prop) (es ps:Sl) (D:Db) (X:List EE),k≤l.length∧iv=.int .i64 k∧zJ w w.heap.size T7 b n e p k S es ps D X wr) (fun iv _=>l.length-(intOf iv).toNat)
 case atStart=>exact⟨0,_,_,_,_,_,Nat.zero_le _,rfl,hV⟩
 case round=>
  clear hV PY
  obtain⟨w1,rfl⟩:∃w1,w1=wr:=⟨_,rfl⟩
  obtain⟨k,S,es,ps,D,X,hk,rfl,hI⟩:=hrel
  obtain⟨xc,xf,xr,xl⟩:=ai hI.box
  have HI:=Lib.hid hI
  by_cases hlt:k<l.length
  ·obtain⟨bA',oA',z,ha,hrow0,Fa⟩:=aO.Y4 HL.out k hlt
   cases ha
   have hrow:row? w1 bA (oA+k*33) 33=some (dM z l[k]):=(fO (hI.out.block _ (gq hrow0)) _ _).trans hrow0
   have oZ:bA<w1.heap.size:=gq hrow
   have hwA:bA<w.heap.size:=gq hrow0
   obtain⟨_,_,_,hp,_⟩:=hI.xX.ex
   have Zn:=Lib.hid (show ∀j,aX b n e p j→w.heap.size≤j∧j≠w.heap.size∧j≠T7 from fun j hj=>⟨hI.fr j (hp.sub j hj),hI.BO j hj⟩)
   clear hI hp hrow0
   generalize l[k]=xk at *
   have Zo:=Lib.hid Fa
   have hn7:¬aX b n e p T7:=fun hj=>(Zn.out _ hj).2.2 rfl
   have hnA:¬aX b n e p bA:=fun hj=>by have:=(Zn.out _ hj).1;have:=hwA;omega
   have EH:row? w1 T7 0 4=some (aj es ps D):=by rw[bV HI.out.box];exact dH (by simp[go_sem])
   clear Fa xc xf xr
   go_wp2_with fail
   apply aml (M:=fun(T10:Nat) (es' ps':Sl) (D':Db) V=>∃S' X',But (aX b n e p) w1 V∧V.heap[T10]?=some (.cells (aj es' ps' D') 44)∧w1.heap.size≤T10∧kN S' b n e p fJ es' ps' D' X' (k+1) V∧(∀j,S' j→S j∨w1.heap.size≤j)∧(∀j,S j→S' j))
   case h1=>
    refine amm 10 6 [0,1,2,3,4,5,10,6,7,8,9,11,12] (aX b n e p) (But.refl _ w1) (by kernel_rfl) (by kernel_rfl) (by rfl) ?_ ?_
    ·repeat (first|(refine aP (by rfl) ?_)|(refine aN (by rfl) (by rfl) (fun K hK=>?_);go_big_quiet_op;refine hK _ ?_;clear hK K))
     refine aS (by rfl) (by rfl) (fun K hK=>?_)
     go_wp2_with fail
     refine(PO S b n e p fJ es ps D X k w z xk w1.drew (HI.out.xX.later (Below.refl _ w1).drew) EY (by omega) (HI.out.out.drew) Zo.out (fun j hj=>HI.out.fr j hj)).mono ?_
     rintro y V ⟨S',es',ps',D',X',rfl,kM,zK,hS',hSS⟩
     dsimp only
     have wB:But (aX b n e p) w1 V:=(But.refl _ w1).drew.trans kM
     refine hK _ _ (bI wB) ?_
     clear hK K
     repeat (first|(refine aP (by rfl) ?_)|(refine aN (by rfl) (by rfl) (fun K hK=>?_);go_big_quiet_op;refine hK _ ?_;clear hK K))
     refine aS (by rfl) (by rfl) (fun K hK=>?_)
     go_wp2_with fail
     refine hK _ _ (bI (wB.trans (But.of_below (aC (Below.refl _ V) _)))) ?_
     clear hK K
     repeat (first|(refine aP (by rfl) ?_)|(refine aN (by rfl) (by rfl) (fun K hK=>?_);go_big_quiet_op;refine hK _ ?_;clear hK K))
     refine aS (by rfl) (by rfl) (fun K hK=>?_)
     go_wp2_with fail
     refine hK _ _ (bI (wB.trans (But.of_below (aC (Below.refl _ V) (.cells (aj es' ps' D') 44))))) ?_
     clear hK K
     repeat (first|(refine aP (by rfl) ?_)|(refine aN (by rfl) (by rfl) (fun K hK=>?_);go_big_quiet_op;refine hK _ ?_;clear hK K))
     refine bW ?_
     have hnew:=World.alloc_heap_new V (.cells (aj es' ps' D') 44)
     have hdN:=zK.later (aC (Below.refl _ V) (.cells (aj es' ps' D') 44))
     have hbN:=wB.trans (But.of_below (aC (Below.refl _ V) (.cells (aj es' ps' D') 44)))
     have hge:w1.heap.size≤V.heap.size:=wB.size
     clear kM zK wB
     generalize (V.alloc (.cells (aj es' ps' D') 44))=VV at *
     generalize V.heap.size=T10 at *
     go_wp2_with fail
     exact⟨trivial,T10,es',ps',D',rfl,⟨S',X',hbN,hnew,hge,hdN,hS',hSS⟩⟩
    ·simp only[pick,List.getElem?_cons_zero,List.getElem?_cons_succ]
     iterate 6 (refine aN (by kernel_rfl) (by kernel_rfl) (fun K hK=>?_);go_big_quiet_op;refine hK _ ?_;clear hK K)
     refine aS (by rfl) (by rfl) (fun K hK=>?_)
     go_wp2_with fail
     refine hK _ _ (bI (But.of_below (aC (Below.refl _ w1).drew _))) ?_
     clear hK K
     have hz1:((w1.alloc (.cells (aj aQ aQ iP) 44)).drew).heap[w1.heap.size]?=some (.cells (aj aQ aQ iP) 44):=World.alloc_heap_new w1 _
     have iL:Below w1.heap.size w1 ((w1.alloc (.cells (aj aQ aQ iP) 44)).drew):=(aC (Below.refl _ w1) _).drew
     have hzs:w1.heap.size<((w1.alloc (.cells (aj aQ aQ iP) 44)).drew).heap.size:=(Array.getElem?_eq_some_iff.1 hz1).1
     have Zp:¬aX b n e p w1.heap.size:=fun hj=>by
      obtain⟨_,_,_,hp,_⟩:=HI.out.xX.ex
      have:=hp.lt _ hj;omega
     have hdZ:kN (fun j=>S j∨j=w1.heap.size) b n e p fJ es ps D X k ((w1.alloc (.cells (aj aQ aQ iP) 44)).drew):=HI.out.xX.wide iL (fun j hj=>hj.imp id fun h=>by omega) (fun j hj=>.inl hj) (fun j hj=>by
      rcases hj with hj|rfl
      ·exact Nat.lt_of_lt_of_le (HI.out.xX.lt j hj) iL.size
      ·exact hzs)
     have hwT:=HI.out.out.size
     refine aS (by rfl) (by rfl) (fun K hK=>?_)
     go_wp2_with fail
     refine(PO (fun j=>S j∨j=w1.heap.size) b n e p fJ es ps D X k w z xk ((w1.alloc (.cells (aj aQ aQ iP) 44)).drew) hdZ EY (by omega) (ag HI.out.out iL) Zo.out (fun j hj=>by
      rcases hj with hj|rfl
      ·exact HI.out.fr j hj
      ·exact hwT)).mono ?_
     rintro y V ⟨S',es',ps',D',X',rfl,kM,zK,hS',hSS⟩
     dsimp only
     have wB:But (aX b n e p) w1 V:=(But.of_below iL).trans kM
     refine hK _ _ (bI wB) ?_
     clear hK K
     have hz2:V.heap[w1.heap.size]?=some (.cells (aj aQ aQ iP) 44):=(kM.block _ hzs Zp).trans hz1
     have hcp:aJ V w1.heap.size 0 4=true:=nO hz2 (by simp[go_sem])
     have hnew:(putRow V w1.heap.size 0 (aj es' ps' D')).heap[w1.heap.size]?=some (.cells (aj es' ps' D') 44):=(pX hz2 (by simp[go_sem])).trans (by rw[Az (by simp[go_sem])])
     have hbN:But (aX b n e p) w1 (putRow V w1.heap.size 0 (aj es' ps' D')):=wB.past ((But.refl _ V).put (S:=one w1.heap.size) rfl) (fun j (hj:j=_)=>by omega)
     have hdN:=zK.off ((But.refl _ V).put (S:=one w1.heap.size) (cs:=aj es' ps' D') (o:=0) rfl) (fun j (hj:j=_)=>⟨hj▸hSS _ (.inr rfl),hj▸Zp⟩)
     have Zq:=iL.size
     have HS:=Lib.hid hS'
     have HSS:=Lib.hid hSS
     have HZ:=Lib.hid Zq
     clear hS' hSS Zq
     repeat (first|(refine aP (by rfl) ?_)|(refine aN (by rfl) (by rfl) (fun K hK=>?_);go_big_quiet_op;refine hK _ ?_;clear hK K))
     refine aS (by rfl) (by rfl) (fun K hK=>?_)
     go_wp2_with fail
     refine hK _ _ (bI hbN) ?_
     clear hK K
     repeat (first|(refine aP (by rfl) ?_)|(refine aN (by rfl) (by rfl) (fun K hK=>?_);go_big_quiet_op;refine hK _ ?_;clear hK K))
     refine bW ?_
     go_wp2_with fail
     refine⟨trivial,w1.heap.size,es',ps',D',?_,⟨S',X',hbN,hnew,Nat.le_refl _,hdN,fun j hj=>by
      rcases HS.out j hj with(h|h)|h
      ·exact .inl h
      ·exact .inr (by omega)
      ·exact .inr (by have:=HZ.out;omega),fun j hj=>HSS.out j (.inl hj)⟩⟩
     generalize w1.heap.size=T10
     rfl
   rintro T10 es' ps' D' V ⟨S',X',kM,PZ,h10,zK,hS',hSS⟩
   have Zr:V.heap[T7]?=some (.cells (aj es ps D) 44):=(kM.block _ xl hn7).trans HI.out.box
   have ar9:aJ V T7 0 4=true:=nO Zr (by simp[go_sem])
   have asa:row? V T10 0 4=some (aj es' ps' D'):=by rw[bV PZ];exact dH (by simp[go_sem])
   have HN:=Lib.hid (HI.out.next kM zK hS' hSS)
   have asb:T10<V.heap.size:=(Array.getElem?_eq_some_iff.1 PZ).1
   clear PZ zK hS' hSS kM Zr
   iterate 3 go_step
   go_wp2_with fail
   go_roundw
   case rel=>exact⟨k+1,S',es',ps',D',X',by omega,by go_num,HN.out⟩
   case measure=>simp[intOf];omega
  ·obtain rfl:k=l.length:=by omega
   have BI:aJ w1 w.heap.size 0 4=true:=nO hI.res (by simp[go_sem])
   have EH:row? w1 T7 0 4=some (aj es ps D):=by rw[bV hI.box];exact dH (by simp[go_sem])
   have m7:¬one w.heap.size T7:=aT (Ne.symm hI.ne)
   have hl3:w.heap.size<w1.heap.size:=(Array.getElem?_eq_some_iff.1 hI.res).1
   clear hI xc xf xr
   go_wp2_with fail
   refine oP (one w.heap.size) (But.refl _ w1) (by kernel_rfl) (by kernel_rfl) ?_
   repeat (first|(refine aP (by rfl) ?_)|(refine aN (by rfl) (by rfl) (fun K hK=>?_);go_big_quiet_op;refine hK _ ?_;clear hK K))
   refine aS (by rfl) (by rfl) (fun K hK=>?_)
   go_wp2_with fail
   refine hK _ _ (bI ((But.refl _ w1).drew.put rfl)) ?_
   clear hK K
   repeat (first|(refine aP (by rfl) ?_)|(refine aN (by rfl) (by rfl) (fun K hK=>?_);go_big_quiet_op;refine hK _ ?_;clear hK K))
   refine bW ?_
   go_wp2_with fail
   have hrow:=iV (w:=w1.drew) (iT es ps D) BI
   have hput:But (one w.heap.size) w1 (putRow w1.drew w.heap.size 0 (aj es ps D)):=(But.refl _ w1).drew.put rfl
   have P5:¬aX b n e p w.heap.size:=fun hj=>(HI.out.BO _ hj).1 rfl
   refine bodyPost_ret (Yq (by rfl) Tryz.underlying44 rfl (by kernel_rfl) (by rfl) hrow) rfl ⟨S,b,n,e,p,es,ps,D,X,rfl,?_,HI.out.xX.off hput (fun j (hj:j=_)=>⟨hj▸HI.out.PV,hj▸P5⟩),HI.out.fr⟩
   exact((But.of_below (S:=fun j=>w.heap.size≤j) HI.out.out).trans (hput.mono fun j (hj:j=_)=>by omega)).below (Nat.le_refl _) fun j hj=>hj
theorem ams(a:Option Addr)(cap:Nat)(l:List dL)(w:World)(_hl:pF w a l)(hn:l.length=0):Calls Tryz.prog 6 #[.slice a l.length cap] w (PW l.length w):=by
 have hz3:=World.alloc_heap_new w (.cells (aj aQ aQ iP) 44)
 have hB3:Below w.heap.size w (w.alloc (.cells (aj aQ aQ iP) 44)):=aC (Below.refl _ w) _
 go_enter Tryz.func6,Tryz.ntmps6
 go_wp2_with fail
 rw[←Jn]
 generalize (w.alloc (.cells (aj aQ aQ iP) 44))=V3 at *
 refine(W9 fJ V3 (by simp[lim,ByteArray.size]) Jm).mono ?_
 rintro y w1 ⟨b,n,e,p,rfl,hb1,oC,l1,l2,l4,l5⟩
 dsimp only
 go_wp2_with fail
 refine(Yr fJ w1 (by simp[lim,ByteArray.size]) Jm).mono ?_
 rintro y w2 ⟨rfl,hb2⟩
 dsimp only
 have hx7:=World.alloc_heap_new w2 (.cells (aj aQ aQ (iH fJ)) 44)
 have wz:Below w1.heap.size w1 (w2.alloc (.cells (aj aQ aQ (iH fJ)) 44)):=aC hb2 _
 have hx3:=aA wz (aA hb1 hz3)
 have Fh:=oC.later wz
 have hB:=ag hB3 (ag hb1 wz)
 have hs3:w.heap.size<V3.heap.size:=(Array.getElem?_eq_some_iff.1 hz3).1
 have hs1:=hb1.size
 have hs2:=hb2.size
 have hV:zJ w w.heap.size w2.heap.size b n e p 0 (fun j=>aX b n e p j∨j=w.heap.size∨j=w2.heap.size) aQ aQ (iH fJ) [] (w2.alloc (.cells (aj aQ aQ (iH fJ)) 44)):=by
  have hof:∀j,aX b n e p j→V3.heap.size≤j∧j<w1.heap.size:=fun j hj=>⟨by rcases hj with rfl|rfl|rfl|rfl<;>assumption,oC.Zm j hj⟩
  have hs7:w2.heap.size<(w2.alloc (.cells (aj aQ aQ (iH fJ)) 44)).heap.size:=by simp
  refine⟨hx7,hx3,Zl Fh (fun j hj=>.inl hj) (fun j hj=>?_),hB,fun j hj=>?_,fun j hj=>?_,Nat.le_refl _,by omega,by omega,.inr (.inl rfl),.inr (.inr rfl)⟩
  ·rcases hj with hj|rfl|rfl
   ·have:=hof j hj;omega
   ·omega
   ·exact hs7
  ·rcases hj with hj|rfl|rfl
   ·have:=hof j hj;omega
   ·omega
   ·omega
  ·have:=hof j hj;omega
 clear oC Fh l1 l2 l4 l5 hx3 hz3 hB hB3 hb1
 have PY:w2.heap.size<(w2.alloc (.cells (aj aQ aQ (iH fJ)) 44)).heap.size:=by simp
 go_wp2_with fail
 generalize (w2.alloc (.cells (aj aQ aQ (iH fJ)) 44))=V7 at *
 generalize w2.heap.size=T7 at *
 refine(PK _ _).mono ?_
 rintro y w' ⟨rfl,rfl⟩
 dsimp only
 go_wp2_with fail
 clear hx7 wz
 go_loopw [9] (fun iv wr=>∃(k:Nat) (S:Nat→Prop) (es ps:Sl) (D:Db) (X:List EE),k≤l.length∧iv=.int .i64 k∧zJ w w.heap.size T7 b n e p k S es ps D X wr) (fun iv _=>l.length-(intOf iv).toNat)
 case atStart=>exact⟨0,_,_,_,_,_,Nat.zero_le _,rfl,hV⟩
 case round=>
  clear hV PY
  obtain⟨w1,rfl⟩:∃w1,w1=wr:=⟨_,rfl⟩
  obtain⟨k,S,es,ps,D,X,hk,rfl,hI⟩:=hrel
  obtain⟨xc,xf,xr,xl⟩:=ai hI.box
  have HI:=Lib.hid hI
  by_cases hlt:k<l.length
  ·omega
  ·obtain rfl:k=l.length:=by omega
   have BI:aJ w1 w.heap.size 0 4=true:=nO hI.res (by simp[go_sem])
   have EH:row? w1 T7 0 4=some (aj es ps D):=by rw[bV hI.box];exact dH (by simp[go_sem])
   have m7:¬one w.heap.size T7:=aT (Ne.symm hI.ne)
   have hl3:w.heap.size<w1.heap.size:=(Array.getElem?_eq_some_iff.1 hI.res).1
   clear hI xc xf xr
   go_wp2_with fail
   refine oP (one w.heap.size) (But.refl _ w1) (by kernel_rfl) (by kernel_rfl) ?_
   repeat (first|(refine aP (by rfl) ?_)|(refine aN (by rfl) (by rfl) (fun K hK=>?_);go_big_quiet_op;refine hK _ ?_;clear hK K))
   refine aS (by rfl) (by rfl) (fun K hK=>?_)
   go_wp2_with fail
   refine hK _ _ (bI ((But.refl _ w1).drew.put rfl)) ?_
   clear hK K
   repeat (first|(refine aP (by rfl) ?_)|(refine aN (by rfl) (by rfl) (fun K hK=>?_);go_big_quiet_op;refine hK _ ?_;clear hK K))
   refine bW ?_
   go_wp2_with fail
   have hrow:=iV (w:=w1.drew) (iT es ps D) BI
   have hput:But (one w.heap.size) w1 (putRow w1.drew w.heap.size 0 (aj es ps D)):=(But.refl _ w1).drew.put rfl
   have P5:¬aX b n e p w.heap.size:=fun hj=>(HI.out.BO _ hj).1 rfl
   refine bodyPost_ret (Yq (by rfl) Tryz.underlying44 rfl (by kernel_rfl) (by rfl) hrow) rfl ⟨S,b,n,e,p,es,ps,D,X,rfl,?_,HI.out.xX.off hput (fun j (hj:j=_)=>⟨hj▸HI.out.PV,hj▸P5⟩),HI.out.fr⟩
   exact((But.of_below (S:=fun j=>w.heap.size≤j) HI.out.out).trans (hput.mono fun j (hj:j=_)=>by omega)).below (Nat.le_refl _) fun j hj=>hj
theorem amu(a:Option Addr)(cap:Nat)(l:List dL)(w:World)(hl:pF w a l)(hn:l.length<50):Calls Tryz.prog 6 #[.slice a l.length cap] w (PW l.length w):=by
 rcases aO.addr hl with h0|⟨bA,oA,rfl,hb⟩
 ·exact ams a cap l w hl h0
 ·exact amn bA oA cap l w hl hn
end Go.Proofs.YtaghcadlgbnbdaaGreatDoor
namespace Go.aY
inductive Tr(α:Type) where
 |nil
 |node (l:Tr α) (a:Option α) (r:Tr α)
inductive kP where
 |e
 |l (p:kP)
 |r (p:kP)
 deriving DecidableEq
noncomputable def zL(n:Nat):Nat→kP:=
 Nat.rec (fun _=>.e) (fun _ ih k=>Bool.rec (Bool.rec (.r (ih (Nat.div (Nat.sub k 1) 2))) (.l (ih (Nat.div (Nat.sub k 1) 2))) (Nat.beq (Nat.mod k 2) 1)) .e (Nat.beq k 0)) n
noncomputable def BP(k:Nat):kP:=zL (Nat.succ k) k
namespace Tr
variable {α:Type}
noncomputable def gP(p:kP):Tr α→Option α:=
 kP.rec (fun t=>Tr.rec none (fun _ a _ _ _=>a) t) (fun _ ih t=>Tr.rec none (fun l _ _ _ _=>ih l) t) (fun _ ih t=>Tr.rec none (fun _ _ r _ _=>ih r) t) p
noncomputable def sP(p:kP)(v:α):Tr α→Tr α:=
 kP.rec (fun t=>Tr.rec (.node .nil (some v) .nil) (fun l _ r _ _=>.node l (some v) r) t)
  (fun _ ih t=>Tr.rec (.node (ih .nil) none .nil) (fun l a r _ _=>.node (ih l) a r) t)
  (fun _ ih t=>Tr.rec (.node .nil none (ih .nil)) (fun l a r _ _=>.node l a (ih r)) t) p
noncomputable def get(t:Tr α)(k:Nat):Option α:=gP (BP k) t
noncomputable def put(t:Tr α)(k:Nat)(v:α):Tr α:=sP (BP k) v t
end Tr
inductive MV where
 |bool (b:Bool)
 |int (k:IntKind) (n:Int)
 |str (s:List Nat)
 |dB
 |ptr (id off:Nat)
 |bG
 |sl (id off len cap:Nat)
 |bU (id off l len:Nat)
 |sle (id asc ase l:Nat)
 |bK
 |mp (id:Nat)
 |fn (f:FuncId) (first captured:List MV)
 |dh (id:Nat)
 |di
 |dK
 |opq (id:Nat)
 |agg (cs:List MV)
 |cu (vs:List MV)
structure ME where
 key:MV
 val:MV
 born:Nat
structure ML where
 state:LoopState
 pending:Option Code
 tmps:Tr MV
 nt:Nat
 params:List Nat
 assign:Code
 body:Code
 defers:Nat
inductive MB where
 |cells (cs:List MV) (elem:TypeId) (es:Nat) (opn:Bool)
 |map (es:List ME) (clock:Nat)
 |iter (m:Option Nat) (since:Nat) (seen:List Nat) (stepped:Nat)
 |loop (l:ML)
 |sG
 |dead
structure MH where
 hp:Tr MB
 nx:Nat
structure MT where
 und:TypeDesc
 info:TypeInfo
inductive P6 where
 |Zt
structure GB where
 ro:Nat
 g0:Nat
structure Env where
 ty:Tr MT
 fns:Tr Func
 ext:FuncId→Option P6
 cmp:TypeId→Bool
 G:GB
 kQ:FuncId→List MV→MH→Option (MV×MH)
 bo:BinOp→TypeId→MV→MV→Option MV
 co:TypeId→TypeId→MV→Option MV
def MV.cells:MV→List MV
 | .agg cs=>cs
 |v=>[v]
def one:MV→Bool
 | .agg _=>false
 | .cu _=>false
 |_=>true
def ones:List MV→Bool
 | []=>true
 |v::vs=>and (one v) (ones vs)
mutual
def jo:Value→Option MV
 | .bool b=>some (.bool b)
 | .int k n=>some (.int k n)
 | .string s=>some (.str (s.toList.map UInt8.toNat))
 | .pointer none=>some .dB
 | .slice none 0 0=>some .bG
 | .map none=>some .bK
 | .nilFunc=>some .di
 | .nilIface=>some .dK
 | .agg ⟨cs⟩=>match wC cs with|some l=>cond (ones l) (some (.agg l)) none|none=>none
 | .tuple ⟨vs⟩=>match wC vs with|some l=>some (.cu l)|none=>none
 |_=>none
def wC:List Value→Option (List MV)
 | []=>some []
 |v::vs=>match jo v,wC vs with|some v,some vs=>some (v::vs)|_,_=>none
end
def jM:MV:=.cu []
structure MA where
 tmps:Tr MV
 nt:Nat
 defs:List Nat
noncomputable def MA.eval(G:GB)(a:MA):Operand→Option MV
 | .tmp t=>a.tmps.get t
 | .const v=>jo v
 | .global g=>cond (Nat.blt g G.g0) (some (.ptr g 0)) none
 | .func f=>some (.fn f [] [])
noncomputable def MA.put(a:MA)(dst:Option Tmp)(v:MV):MA:=
 match dst with
 |none=>a
 |some d=>cond (Nat.blt d a.nt) {a with tmps:=a.tmps.put d v} a
def JE:Sem Value→Option MV
 | .pure v=>jo v
 |_=>none
inductive gz where
 |ptr
 |sl (len cap:Nat)
 |mp
def gz.at(id:Nat):gz→MV
 | .ptr=>.ptr id 0
 | .sl len cap=>.sl id 0 len cap
 | .mp=>.mp id
inductive MR where
 |val (v:MV)
 |new (k:gz) (b:MB)
 |upd (v:MV) (h:MH)
 |enter (f:FuncId) (args:List MV)
 |round (id:Nat) (args:List MV)
noncomputable def MH.new(h:MH)(b:MB):MH:={hp:=h.hp.put h.nx b,nx:=Nat.succ h.nx}
noncomputable def MH.set(h:MH)(id:Nat)(b:MB):MH:={h with hp:=h.hp.put id b}
noncomputable def MH.get(h:MH)(id:Nat):Option MB:=h.hp.get id
noncomputable def jd{α:Type}(l:List α):Nat→Option α:=
 List.rec (fun _=>none) (fun a _ ih n=>Nat.rec (some a) (fun n _=>ih n) n) l
noncomputable def P7{α:Type}(l:List α):Nat→α→List α:=
 List.rec (fun _ _=>[]) (fun a l ih n v=>Nat.rec (v::l) (fun n _=>a::ih n v) n) l
noncomputable def Fj{α:Type}(vs:List α):List α→List α:=
 List.rec (fun l=>l) (fun v _ ih l=>List.rec [] (fun _ l _=>v::ih l) l) vs
noncomputable def jW{α:Type}(n:Nat)(vs:List α):List α→List α:=
 Nat.rec (fun l=>Fj vs l) (fun _ ih l=>List.rec [] (fun a l _=>a::ih l) l) n
noncomputable def Fp{α:Type}(n:Nat):List α→List α:=
 Nat.rec (fun l=>l) (fun _ ih l=>List.rec [] (fun _ l _=>ih l) l) n
noncomputable def oG{α:Type}(n:Nat):List α→Option (List α):=
 Nat.rec (fun _=>some []) (fun _ ih l=>List.rec none (fun a l _=>Option.rec none (fun r=>some (a::r)) (ih l)) l) n
noncomputable def eH{α:Type}(l:List α):Nat→Nat:=List.rec (fun n=>n) (fun _ _ ih n=>ih (Nat.succ n)) l
noncomputable def Fq{α:Type}(n:Nat)(l:List α):List α:=Nat.rec [] (fun _ ih=>l++ih) n
noncomputable def P8{α:Type}(l:List α):Nat→List α:=
 List.rec (fun _=>[]) (fun a l ih n=>Nat.rec l (fun n _=>a::ih n) n) l
section ops
variable (E:Env)
noncomputable def dG(t:TypeId):Option MT:=E.ty.get t
noncomputable def zeroV(T:MT):Option MV:=match T.info.zero with|some v=>(match jo v with|some m=>cond (and (ones m.cells) (Nat.beq (eH m.cells 0) T.info.size)) (some m) none|none=>none)|none=>none
noncomputable def uO(T:MT):Option (List MV):=match zeroV T with|some m=>some m.cells|none=>none
def xY(T:MT):Bool:=match T.und with | .struct _=>true | .array _ _=>true|_=>false
noncomputable def JF(T:MT)(i:Nat):Option Field:=match T.und with | .struct fs=>jd fs.toList i|_=>none
noncomputable def sH(h:MH)(id off n:Nat):Option (List MV):=
 match h.get id with
 |some (.cells cs _ _ _)=>oG n (Fp off cs)
 |_=>none
noncomputable def partOf(T:MT)(cs:List MV)(off:Nat):Option MV:=
 cond (xY T) (match oG T.info.size (Fp off cs)with|some l=>some (.agg l)|none=>none) (jd cs off)
noncomputable def Fv(T:MT)(h:MH)(id off:Nat):Option MV:=
 match h.get id with
 |some (.cells cs _ _ _)=>partOf T cs off
 |_=>none
noncomputable def zM(h:MH)(id off:Nat)(vs:List MV):Option MH:=
 cond (Nat.blt id E.G.ro) none
 (match h.get id with
 |some (.cells cs t es o)=>cond (and (ones vs) (Nat.ble (Nat.add off (eH vs 0)) (eH cs 0))) (some (h.set id (.cells (jW off vs cs) t es o))) none
 |_=>none)
def JG:MV→Option Nat
 | .int _ (.ofNat n)=>some n
 |_=>none
abbrev Ev:=Operand→Option MV
noncomputable def nH(place:Nat→Option (Nat×Nat))(ev:Ev)(ps:List (Nat×Operand)):List MV→Option (List MV):=
 List.rec (fun cells=>some cells) (fun p _ ih cells=>
  match place p.1,ev p.2 with
  |some (off,size),some v=>
   cond (and (ones v.cells) (and (Nat.beq (eH v.cells 0) size) (Nat.ble (Nat.add off size) (eH cells 0)))) (ih (jW off v.cells cells)) none
  |_,_=>none) ps
noncomputable def evs(ev:Ev)(l:List Operand):Option (List MV):=
 List.rec (some []) (fun x _ ih=>Option.rec none (fun v=>Option.rec none (fun vs=>some (v::vs)) ih) (ev x)) l
noncomputable def zN(a:List Nat):List Nat→Bool:=
 List.rec (fun b=>List.rec false (fun _ _ _=>true) b) (fun x _ ih b=>List.rec false (fun y b _=>or (Nat.blt x y) (and (Nat.beq x y) (ih b))) b) a
noncomputable def xZ(a:List Nat):List Nat→Bool:=
 List.rec (fun b=>List.rec true (fun _ _ _=>false) b) (fun x _ ih b=>List.rec false (fun y b _=>and (Nat.beq x y) (ih b)) b) a
def BQ:MV→Bool
 | .sl ..=>true
 | .bU ..=>true
 | .sle ..=>true
 |_=>false
def isFn:MV→Bool
 | .fn ..=>true
 | .dh ..=>true
 |_=>false
noncomputable def nI(t:TypeDesc)(x y:MV):Option Bool:=
 match t with
 | .bool=>match x,y with | .bool a,.bool b=>some (a == b)|_,_=>none
 | .int _=>match x,y with | .int k a,.int k' b=>cond (decide (k=k')) (some (decide (a=b))) none|_,_=>none
 | .string=>match x,y with | .str a,.str b=>some (xZ a b)|_,_=>none
 | .pointer _=>match x,y with
  | .dB,.dB=>some true
  | .dB,.ptr ..=>some false
  | .ptr ..,.dB=>some false
  |_,_=>none
 | .slice _=>match x,y with
  | .bG,.bG=>some true
  | .bG,y=>cond (BQ y) (some false) none
  |x,.bG=>cond (BQ x) (some false) none
  |_,_=>none
 | .map _ _=>match x,y with
  | .bK,.bK=>some true
  | .bK,.mp _=>some false
  | .mp _,.bK=>some false
  |_,_=>none
 | .func _ _ _=>match x,y with
  | .di,.di=>some true
  | .di,y=>cond (isFn y) (some false) none
  |x,.di=>cond (isFn x) (some false) none
  |_,_=>none
 |_=>none
noncomputable def P9(op:BinOp)(a b:List Nat):Option MV:=
 match op with
 | .add=>cond (Nat.ble (Nat.add (eH a 0) (eH b 0)) 1048576) (some (.str (a++b))) none
 | .eql=>some (.bool (xZ a b))
 | .neq=>some (.bool (not (xZ a b)))
 | .lss=>some (.bool (zN a b))
 | .leq=>some (.bool (or (zN a b) (xZ a b)))
 | .gtr=>some (.bool (not (or (zN a b) (xZ a b))))
 | .geq=>some (.bool (not (zN a b)))
 |_=>none
noncomputable def eqFields(fs:List Field)(xs ys:List MV):Option Bool:=
 List.rec (some true) (fun f _ ih=>
  match dG E f.type with
  |some F=>cond (or (xY F) (decide (f.name = "_"))) none (match jd xs f.offset,jd ys f.offset with
   |some x,some y=>match nI F.und x y with
    |some true=>ih
    |some false=>some false
    |none=>none
   |_,_=>none)
  |none=>none) fs
def Zu(op:BinOp)(k:IntKind)(a:Int)(k':IntKind)(b:Int):Option MV:=JE (binOp op 0 (.int k a) (.int k' b))
def nU:MV→MV→Bool
 | .bool _,.bool _=>true
 | .dB,.dB=>true
 | .dB,.ptr ..=>true
 | .ptr ..,.dB=>true
 | .bG,.bG=>true
 | .bG,.sl ..=>true
 | .bG,.bU ..=>true
 | .bG,.sle ..=>true
 | .sl ..,.bG=>true
 | .bU ..,.bG=>true
 | .sle ..,.bG=>true
 | .bK,.bK=>true
 | .bK,.mp _=>true
 | .mp _,.bK=>true
 | .di,.di=>true
 | .di,.fn ..=>true
 | .di,.dh _=>true
 | .fn ..,.di=>true
 | .dh _,.di=>true
 |_,_=>false
noncomputable def Qa(op:BinOp)(t:TypeId)(x y:MV):Option MV:=
 match x,y with
 | .int k a,.int k' b=>Zu op k a k' b
 | .str a,.str b=>P9 op a b
 |x,y=>cond (nU x y) (match dG E t with
  |some T=>match op with
   | .eql=>match nI T.und x y with|some b=>some (.bool b)|none=>none
   | .neq=>match nI T.und x y with|some b=>some (.bool (not b))|none=>none
   |_=>none
  |none=>none) none
noncomputable def bytesOf(l:List MV):Option (List Nat):=
 List.rec (some []) (fun v _ ih=>match v with
  | .int .u8 (.ofNat n)=>cond (Nat.blt n 256) (match ih with|some r=>some (n::r)|none=>none) none
  |_=>none) l
noncomputable def ofBytes(l:List Nat):List MV:=List.rec [] (fun n _ ih=>.int .u8 (.ofNat n)::ih) l
noncomputable def oH(es:Nat)(h:MH):MV→Option (List MV)
 | .bG=>some []
 | .sle ..=>some []
 | .sl id off len _=>sH h id off (Nat.mul len es)
 | .bU id off _ len=>sH h id off (Nat.mul len es)
 |_=>none
noncomputable def pG(h:MH):MV→Option Nat
 | .str s=>some (eH s 0)
 | .bG=>some 0
 | .sle ..=>some 0
 | .sl _ _ n _=>some n
 | .bU _ _ _ n=>some n
 | .bK=>some 0
 | .mp id=>match h.get id with|some (.map es _)=>some (eH es 0)|_=>none
 |_=>none
def isByte(T:MT):Bool:=match T.und with | .int .u8=>true|_=>false
noncomputable def JH(h:MH):MV→Option MR
 | .sl id off len cap=>match h.get id with
  |some (.cells cs t es o)=>cond (Nat.ble E.G.ro id) (some (.upd (.sl id off len cap) (h.set id (.cells cs t es o)))) none
  |_=>none
 |_=>none
noncomputable def Qb(src dst:TypeId)(x:MV)(h:MH):Option MR:=
 match dG E src,dG E dst with
 |some S,some D=>
  match D.und,x with
  | .int k,.int _ n=>match S.und with | .int _=>some (.val (.int k (k.wrap n)))|_=>none
  | .string,.str s=>match S.und with | .string=>some (.val (.str s))|_=>none
  | .slice e,.str s=>match S.und,dG E e with
   | .string,some T=>cond (isByte T) (some (.upd (.bU h.nx 0 0 (eH s 0)) (h.new (.cells (ofBytes s) e 1 true)))) none
   |_,_=>none
  | .string,x=>match S.und with
   | .slice e=>match dG E e with
    |some T=>cond (isByte T) (match oH 1 h x with
     |some c=>match bytesOf c with|some s=>some (.val (.str s))|none=>none
     |none=>none) none
    |none=>none
   |_=>none
  | .slice e,x=>match S.und,dG E e with
   | .slice _,some T=>cond (and (Nat.beq src dst) (isByte T)) (JH E h x) none
   |_,_=>none
  |_,_=>none
 |_,_=>none
noncomputable def qE(ev:Ev):Option Operand→Option (Option Nat)
 |none=>some none
 |some x=>match ev x with|some v=>(match JG v with|some n=>some (some n)|none=>none)|none=>none
def od(o:Option Nat)(n:Nat):Nat:=match o with|some m=>m|none=>n
noncomputable def BR(id off cap es lo hi mx:Nat):Option MR:=
 cond (and (Nat.ble lo hi) (and (Nat.ble hi mx) (Nat.ble mx cap)))
  (some (.val (.sl id (cond (Nat.beq mx lo) off (Nat.add off (Nat.mul lo es))) (Nat.sub hi lo) (Nat.sub mx lo)))) none
noncomputable def JI(id off l len es lo hi:Nat):Option MR:=
 cond (and (Nat.ble lo hi) (Nat.ble hi len))
  (some (.val (cond (or (Nat.blt lo hi) (Nat.beq lo 0)) (.bU id (Nat.add off (Nat.mul lo es)) (Nat.add l lo) (Nat.sub hi lo)) (.sle id off (Nat.add off (Nat.mul lo es)) (Nat.add l lo))))) none
noncomputable def pI(e:TypeId):Option Nat:=match dG E e with|some T=>some T.info.size|none=>none
noncomputable def Qc(t:TypeId)(x:MV)(lo hi mx:Option Nat):Option MR:=
 match dG E t with
 |none=>none
 |some T=>
  match T.und,x with
  | .string,.str s=>match mx with
   |some _=>none
   |none=>cond (and (Nat.ble (od lo 0) (od hi (eH s 0))) (Nat.ble (od hi (eH s 0)) (eH s 0)))
    (match oG (Nat.sub (od hi (eH s 0)) (od lo 0)) (Fp (od lo 0) s)with|some s=>some (.val (.str s))|none=>none) none
  | .slice e,.sl id off len cap=>match pI E e with
   |some es=>BR id off cap es (od lo 0) (od hi len) (od mx cap)
   |none=>none
  | .slice e,.bU id off l len=>match pI E e with
   |some es=>match mx with
    |some m=>BR id off len es (od lo 0) (od hi len) m
    |none=>JI id off l len es (od lo 0) (od hi len)
   |none=>none
  | .slice e,.bG=>match pI E e with
   |some _=>cond (and (Nat.beq (od lo 0) 0) (and (Nat.beq (od hi 0) 0) (Nat.beq (od mx 0) 0))) (some (.val .bG)) none
   |none=>none
  | .slice e,.sle id a b l=>match pI E e,mx with
   |some _,none=>cond (and (Nat.beq (od lo 0) 0) (Nat.beq (od hi 0) 0)) (some (.val (.sle id a b l))) none
   |_,_=>none
  | .array n e,.ptr id off=>match pI E e with
   |some es=>BR id off n es (od lo 0) (od hi n) (od mx n)
   |none=>none
  |_,_=>none
noncomputable def Zv(X:MT)(Te:MT)(h:MH)(x:MV):Option (Nat×List MV):=
 match X.und with
 | .int _=>match x,uO Te with
  | .int _ (.ofNat n),some z=>cond (Nat.ble n 1048576) (some (n,Fq n z)) none
  |_,_=>none
 |_=>match x with
  | .str b=>cond (Nat.beq Te.info.size 1) (some (eH b 0,ofBytes b)) none
  |x=>match pG h x,oH Te.info.size h x with|some n,some c=>some (n,c)|_,_=>none
noncomputable def BU(e:TypeId)(es len n:Nat)(cs:List MV)(h:MH):Option (MV×MH):=
 cond (Nat.ble (Nat.add len n) 1048576) (some ((.bU h.nx 0 0 (Nat.add len n)),(h.new (.cells cs e es true)))) none
noncomputable def Fz(e:TypeId)(es:Nat)(s:MV)(n:Nat)(c:List MV)(h:MH):Option (MV×MH):=
 match s with
 | .bG=>cond (Nat.beq n 0) (some (.bG,h)) (BU e es 0 n c h)
 | .sl id off len cap=>cond (Nat.ble (Nat.add len n) cap)
  (match zM E h id (Nat.add off (Nat.mul len es)) c with|some h=>some ((.sl id off (Nat.add len n) cap),h)|none=>none)
  (match sH h id off (Nat.mul len es)with|some old=>BU e es len n (old++c) h|none=>none)
 | .bU id off l len=>cond (Nat.beq n 0) (some ((.bU id off l len),h))
  (match h.get id with
  |some (.cells cs t' es' true)=>cond (and (Nat.ble E.G.ro id) (and (Nat.beq es' es) (and (Nat.beq off (Nat.mul l es)) (Nat.beq t' e)))) (match oG (Nat.mul len es) (Fp off cs)with
   |some old=>BU e es len n (old++c) (h.set id .dead)
   |none=>none) none
  |_=>none)
 |_=>none
noncomputable def JJ(argTypes:List TypeId)(s x:MV)(h:MH):Option (MV×MH):=
 match jd argTypes 0,jd argTypes 1 with
 |some st,some xt=>match dG E st,dG E xt with
  |some S,some X=>match S.und with
   | .slice e=>match dG E e with
    |none=>none
    |some Te=>cond (and (Nat.blt 0 Te.info.size) (Nat.ble Te.info.bytes 65536)) (match Zv X Te h x,uO Te with
     |some (n,c),some _=>Fz E e Te.info.size s n c h
     |_,_=>none) none
   |_=>none
  |_,_=>none
 |_,_=>none
def JK(a b:Nat):Nat:=cond (Nat.ble a b) a b
noncomputable def x9(es n:Nat)(h:MH)(x:MV):Option (List MV):=
 match x with
 | .str b=>match oG n b with|some l=>some (ofBytes l)|none=>none
 |x=>match oH es h x with|some c=>oG (Nat.mul n es) c|none=>none
noncomputable def JL(d:MV)(n:Nat)(c:List MV)(h:MH):Option (MV×MH):=
 match d with
 | .sl id off _ _=>match zM E h id off c with|some h=>some ((.int .i64 (.ofNat n)),h)|none=>none
 | .bU id off _ _=>match zM E h id off c with|some h=>some ((.int .i64 (.ofNat n)),h)|none=>none
 | .bG=>some ((.int .i64 0),h)
 |_=>none
noncomputable def JM(argTypes:List TypeId)(d x:MV)(h:MH):Option (MV×MH):=
 match jd argTypes 0 with
 |some dt=>match dG E dt with
  |some D=>match D.und with
   | .slice e=>match pI E e,pG h d,pG h x with
    |some es,some dl,some xl=>match x9 es (JK xl dl) h x with
     |some c=>JL E d (JK xl dl) c h
     |none=>none
    |_,_,_=>none
   |_=>none
  |none=>none
 |none=>none
noncomputable def qF(T:TypeDesc)(k:MV)(l:List ME):Nat→Option (Option (Nat×ME)):=
 List.rec (fun _=>some none) (fun e _ ih i=>match nI T k e.key with
  |some true=>some (some (i,e))
  |some false=>ih (Nat.succ i)
  |none=>none) l
def oI:TypeDesc→Bool
 | .bool=>true
 | .string=>true
 | .int _=>true
 |_=>false
noncomputable def mapOf(h:MH):MV→Option (List ME×Nat)
 | .bK=>some ([],0)
 | .mp id=>match h.get id with|some (.map es c)=>some (es,c)|_=>none
 |_=>none
noncomputable def BV(t:TypeId):Option (TypeDesc×TypeId):=
 match dG E t with
 |some T=>match T.und with
  | .map kt el=>match dG E kt with|some K=>cond (oI K.und) (some (K.und,el)) none|none=>none
  |_=>none
 |none=>none
def found(ok:Bool)(v:MV)(b:Bool):MV:=cond ok (.cu [v,.bool b]) v
noncomputable def Qd(t:TypeId)(m k:MV)(ok:Bool)(h:MH):Option MR:=
 match BV E t,mapOf h m with
 |some (K,el),some (es,_)=>match qF K k es 0 with
  |some (some (_,e))=>some (.val (found ok e.val true))
  |some none=>match dG E el with
   |some Te=>match zeroV Te with
    |some z=>some (.val (found ok z false))
    |none=>none
   |none=>none
  |none=>none
 |_,_=>none
noncomputable def Zw(t:TypeId)(m k v:MV)(h:MH):Option (MV×MH):=
 match BV E t,m with
 |some (K,_),.mp id=>match h.get id with
  |some (.map es c)=>cond (Nat.ble E.G.ro id) (match qF K k es 0 with
   |some (some (i,e))=>some (jM,(h.set id (.map (P7 es i {e with key:=k,val:=v}) c)))
   |some none=>some (jM,(h.set id (.map (es++[⟨k,v,c⟩]) (Nat.succ c))))
   |none=>none) none
  |_=>none
 |_,_=>none
noncomputable def JO(t:TypeId)(m k:MV)(h:MH):Option (MV×MH):=
 match BV E t,m with
 |some (K,_),.mp id=>match h.get id with
  |some (.map es c)=>cond (Nat.ble E.G.ro id) (match qF K k es 0 with
   |some (some (i,_))=>some (jM,(h.set id (.map (P8 es i) c)))
   |some none=>some (jM,h)
   |none=>none) none
  |_=>none
 |_,_=>none
noncomputable def JP(n:Nat)(l:List Nat):Bool:=List.rec true (fun m _ ih=>Bool.rec ih false (Nat.beq n m)) l
noncomputable def leftOf(seen:List Nat)(l:List ME):List ME:=List.rec [] (fun e _ ih=>Bool.rec ih (e::ih) (JP e.born seen)) l
noncomputable def Zx(r m since:Nat)(seen:List Nat)(last:Nat)(es:List ME)(clock:Nat)(h:MH):Option (MV×MH):=
 cond (and (not seen.isEmpty) (and (not es.isEmpty) (es.all fun e=>Nat.ble last e.born))) none
  (match leftOf seen es with
   | []=>some ((.cu [.bool false]),h)
   | [e]=>cond (Nat.blt e.born since) (some ((.cu [.bool true,e.key,e.val]),(h.set r (.iter (some m) since (seen++[e.born]) clock)))) none
   |_=>none)
noncomputable def Zy(it:MV)(isString:Bool)(h:MH):Option (MV×MH):=
 match it with
 | .ptr r 0=>cond (or isString (Nat.blt r E.G.ro)) none (match h.get r with
  |some (.iter none _ _ _)=>some ((.cu [.bool false]),h)
  |some (.iter (some m) since seen last)=>match h.get m with
   |some (.map es clock)=>Zx r m since seen last es clock h
   |_=>none
  |_=>none)
 |_=>none
noncomputable def FB(s:Nat)(l:List ME):Option ME:=List.rec none (fun e _ ih=>Bool.rec ih (some e) (Nat.beq e.born s)) l
noncomputable def JQ(l:List Nat):Option Nat:=List.rec none (fun n _ ih=>Option.rec (some n) (fun m=>some m) ih) l
noncomputable def Zz(it:MV)(h:MH):Option MV:=
 match it with
 | .ptr r 0=>match h.get r with
  |some (.iter (some m) _ seen stepped)=>match h.get m with
   |some (.map es clock)=>cond (Nat.beq clock stepped) (match JQ seen with
    |some s=>match FB s es with|some e=>some (.cu [e.key,e.val])|none=>none
    |none=>none) none
   |_=>none
  |_=>none
 |_=>none
noncomputable def ZA(t:TypeId)(x:MV)(h:MH):Option (MV×MH):=
 match dG E t with
 |some T=>match T.und,x with
  | .map _ _,.bK=>some ((.ptr h.nx 0),(h.new (.iter none 0 [] 0)))
  | .map _ _,.mp id=>match h.get id with|some (.map _ c)=>some ((.ptr h.nx 0),(h.new (.iter (some id) c [] c)))|_=>none
  |_,_=>none
 |none=>none
def Qe:MV→MV→Option MV
 | .int k a,.int _ b=>some (.int k (if b<a then b else a))
 |_,_=>none
def Qg:MV→MV→Option MV
 | .int k a,.int _ b=>some (.int k (if b > a then b else a))
 |_,_=>none
noncomputable def FC(t:TypeId)(x:MV)(h:MH):Option MR:=
 match dG E t with
 |some T=>match T.und with
  | .array n _=>some (.val (.int .i64 (.ofNat n)))
  | .pointer a=>match dG E a with
   |some Ta=>match Ta.und with | .array n _=>some (.val (.int .i64 (.ofNat n)))|_=>none
   |none=>none
  | .string=>match x with | .str s=>some (.val (.int .i64 (.ofNat (eH s 0))))|_=>none
  | .slice _=>match x with
   | .str _=>none
   | .bK=>none
   | .mp _=>none
   |x=>match pG h x with|some n=>some (.val (.int .i64 (.ofNat n)))|none=>none
  | .map _ _=>match mapOf h x with|some (es,_)=>some (.val (.int .i64 (.ofNat (eH es 0))))|none=>none
  |_=>none
 |none=>none
noncomputable def FD(t:TypeId)(x:MV):Option MR:=
 match dG E t with
 |some T=>match T.und,x with
  | .slice _,.sl _ _ _ c=>some (.val (.int .i64 (.ofNat c)))
  | .slice _,.bG=>some (.val (.int .i64 0))
  |_,_=>none
 |none=>none
def mr:Option (MV×MH)→Option MR
 |some (v,h)=>some (.upd v h)
 |none=>none
def nJ:Option (gz×MB)→Option MR
 |some (k,b)=>some (.new k b)
 |none=>none
def vR:Option MV→Option MR
 |some v=>some (.val v)
 |none=>none
noncomputable def Qh(b:Builtin)(argTypes:List TypeId)(args:List MV)(h:MH):Option MR:=
 match args with
 | [x]=>match b,jd argTypes 0 with
  | .len,some t=>FC E t x h
  | .cap,some t=>FD E t x
  |_,_=>none
 | [x,y]=>match b with
  | .append=>mr (JJ E argTypes x y h)
  | .copy=>mr (JM E argTypes x y h)
  | .delete=>match jd argTypes 0 with|some t=>mr (JO E t x y h)|none=>none
  | .min=>vR (Qe x y)
  | .max=>vR (Qg x y)
  |_=>none
 |_=>none
noncomputable def FH(l:List Nat)(c:Nat):Nat→Int:=
 List.rec (fun _=>-1) (fun b _ ih i=>Bool.rec (ih (Nat.succ i)) (.ofNat i) (Nat.beq b c)) l
noncomputable def BX(k:P6)(args:List MV):Option MR:=
 match k,args with
 | .Zt,[.str s,.int .u8 (.ofNat c)]=>cond (Nat.blt c 256) (some (.val (.int .i64 (FH s c 0)))) none
 |_,_=>none
noncomputable def Qi(f:FuncId)(args:List MV):Option MR:=
 match E.ext f with
 |some k=>BX k args
 |none=>some (.enter f args)
noncomputable def Qj(f:MV)(args:List MV):Option MR:=
 match f with
 | .fn f a b=>Qi E f (a++args++b)
 | .dh l=>some (.round l args)
 |_=>none
noncomputable def wE(ev:Ev)(c:Call)(h:MH):Option MR:=
 match evs ev c.args.toList with
 |none=>none
 |some args=>match c.callee with
  | .builtin b=>Qh E b c.argTypes.toList args h
  | .value f=>match ev f with|some f=>Qj E f args|none=>none
  | .invoke ..=>none
noncomputable def BZ(ev:Ev)(c a b:Operand):Option MR:=
 match ev c with|some (.bool t)=>vR (cond t (ev a) (ev b))|_=>none
noncomputable def JR(k:gz)(cs:List MV)(t:TypeId)(T:MT):gz×MB:=(k,.cells cs t T.info.size false)
noncomputable def ZB(t:TypeId):Option (gz×MB):=
 match dG E t with|some T=>(match uO T with|some z=>some (JR .ptr z t T)|none=>none)|none=>none
noncomputable def Qk(ev:Ev)(t:TypeId)(x:Operand):Option (gz×MB):=
 match dG E t,ev x with|some T,some v=>cond (ones v.cells) (some (JR .ptr v.cells t T)) none|_,_=>none
noncomputable def FI(fs:List Field):Option (List (Nat×Nat)):=
 List.rec (some []) (fun f _ ih=>match pI E f.type,ih with|some n,some l=>some ((f.offset,n)::l)|_,_=>none) fs
def JS(n:Nat)(i:Nat):Option (Nat×Nat):=some (Nat.mul i n,n)
def Cb:Option (List MV)→Option MR|some c=>some (.val (.agg c))|none=>none
noncomputable def Cc(ev:Ev)(t:TypeId)(parts:Array (Nat×Operand)):Option MR:=
 match dG E t with
 |none=>none
 |some T=>match uO T,T.und with
  |some z,.struct fs=>match FI E fs.toList with
   |some ps=>Cb (nH (jd ps) ev parts.toList z)
   |none=>none
  |some z,.array _ e=>match pI E e with
   |some es=>Cb (nH (JS es) ev parts.toList z)
   |none=>none
  |_,_=>none
noncomputable def Ql(ev:Ev)(t:TypeId)(len:Nat)(parts:Array (Nat×Operand)):Option (gz×MB):=
 match dG E t with
 |none=>none
 |some T=>match T.und with
  | .slice e=>match dG E e with
   |none=>none
   |some Te=>match uO Te with
    |none=>none
    |some z=>cond (Nat.ble (Nat.mul len Te.info.size) 65536) (match nH (JS Te.info.size) ev parts.toList (Fq len z)with
     |some c=>some (JR (.sl len len) c e Te)
     |none=>none) none
  |_=>none
noncomputable def Ce(ev:Ev)(t:TypeId)(x:Operand)(h:MH):Option MR:=
 match dG E t,ev x with
 |some T,some (.ptr id off)=>vR (Fv T h id off)
 |_,_=>none
noncomputable def JU(ev:Ev)(t:TypeId)(x v:Operand)(h:MH):Option (MV×MH):=
 match dG E t,ev x,ev v with
 |some T,some (.ptr id off),some v=>cond (Nat.beq (eH v.cells 0) T.info.size) (match zM E h id off v.cells with|some h=>some (jM,h)|none=>none) none
 |_,_,_=>none
noncomputable def Cf(ev:Ev)(x:Operand):Option MR:=
 match ev x with
 |some (.ptr id off)=>some (.val (.ptr id off))
 |some (.fn f a b)=>some (.val (.fn f a b))
 |some (.dh l)=>some (.val (.dh l))
 |some (.mp id)=>some (.val (.mp id))
 |_=>none
def isConst:Operand→Bool
 | .const _=>true
 |_=>false
noncomputable def Ci(ev:Ev)(op:BinOp)(t:TypeId)(x y:Operand):Option MR:=
 match ev x,ev y with
 |some (.agg a),some (.agg b)=>match dG E t with
  |some T=>match T.und,op with
   | .struct fs,.eql=>cond (E.cmp t) (match eqFields E fs.toList a b with|some r=>some (.val (.bool r))|none=>none) none
   | .struct fs,.neq=>cond (E.cmp t) (match eqFields E fs.toList a b with|some r=>some (.val (.bool (not r)))|none=>none) none
   |_,_=>none
  |none=>none
 |some .dK,some .dK=>cond (or (isConst x) (isConst y)) (match dG E t with
  |some T=>match T.und,op with
   | .interface _,.eql=>some (.val (.bool true))
   | .interface _,.neq=>some (.val (.bool false))
   |_,_=>none
  |none=>none) none
 |some x,some y=>vR (Qa E op t x y)
 |_,_=>none
noncomputable def Qm(ev:Ev)(op:BinOp)(t:TypeId)(x y:Operand):Option MV:=
 match ev x,ev y with|some a,some b=>E.bo op t a b|_,_=>none
noncomputable def Cj(ev:Ev)(op:BinOp)(t:TypeId)(x y:Operand):Option MR:=
 match Qm E ev op t x y with|some v=>some (.val v)|none=>Ci E ev op t x y
noncomputable def Cm(ev:Ev)(op:UnOp)(x:Operand):Option MR:=
 match ev x with
 |some (.bool b)=>match op with | .not=>some (.val (.bool (not b)))|_=>none
 |some (.int k n)=>vR (JE (Op.unary op (.int k n)))
 |_=>none
noncomputable def zO(ev:Ev)(s d:TypeId)(x:Operand)(h:MH):Option MR:=match ev x with|some x=>(match E.co s d x with|some v=>some (.val v)|none=>Qb E s d x h)|none=>none
noncomputable def CB(ev:Ev)(fn:Fn)(first captured:Array Operand):Option MR:=
 match fn,evs ev first.toList,evs ev captured.toList with
 | .func f,some a,some b=>some (.val (.fn f a b))
 |_,_,_=>none
noncomputable def Qn(ev:Ev)(t:TypeId)(r:Option Operand):Option (gz×MB):=
 match r with
 |none=>some (.mp,.map [] 0)
 |some x=>match ev x,BV E t with|some (.int ..),some _=>some (.mp,.map [] 0)|_,_=>none
noncomputable def wF(ev:Ev)(x:Operand):Option Nat:=match ev x with|some v=>JG v|none=>none
noncomputable def Qo(ev:Ev)(t:TypeId)(l c:Operand):Option (gz×MB):=
 match dG E t,wF ev l,wF ev c with
 |some T,some l,some c=>match T.und with
  | .slice e=>match dG E e with
   |some Te=>match uO Te with
    |some z=>cond (and (Nat.ble l c) (and (Nat.ble c 1048576) (Nat.ble Te.info.bytes 65536))) (some (JR (.sl l c) (Fq c z) e Te)) none
    |none=>none
   |none=>none
  |_=>none
 |_,_,_=>none
noncomputable def CE(ev:Ev)(t:TypeId)(x:Operand)(lo hi mx:Option Operand):Option MR:=
 match ev x,qE ev lo,qE ev hi,qE ev mx with
 |some x,some lo,some hi,some mx=>match hi,mx with
  |none,some _=>none
  |_,_=>Qc E t x lo hi mx
 |_,_,_,_=>none
noncomputable def CG(ev:Ev)(t:TypeId)(x:Operand)(f:Nat):Option MR:=
 match dG E t,ev x with
 |some T,some (.ptr id off)=>match JF T f with
  |some F=>match pI E F.type with
   |some n=>cond (Nat.beq n 0) none (some (.val (.ptr id (Nat.add off F.offset))))
   |none=>none
  |none=>none
 |_,_=>none
noncomputable def CJ(ev:Ev)(t:TypeId)(x:Operand)(f:Nat):Option MR:=
 match dG E t,ev x with
 |some T,some (.agg cs)=>match JF T f with
  |some F=>match dG E F.type with|some FT=>vR (partOf FT cs F.offset)|none=>none
  |none=>none
 |_,_=>none
noncomputable def zQ(e:TypeId)(id off len i:Nat):Option MR:=
 match pI E e with
 |some n=>cond (Nat.blt i len) (some (.val (.ptr id (Nat.add off (Nat.mul i n))))) none
 |none=>none
noncomputable def CO(ev:Ev)(t:TypeId)(x i:Operand):Option MR:=
 match dG E t,ev x,wF ev i with
 |some T,some x,some i=>match T.und,x with
  | .array n e,.ptr id off=>zQ E e id off n i
  | .slice e,.sl id off len _=>zQ E e id off len i
  | .slice e,.bU id off _ len=>zQ E e id off len i
  |_,_=>none
 |_,_,_=>none
noncomputable def CP(ev:Ev)(t:TypeId)(x i:Operand):Option MR:=
 match dG E t,ev x,wF ev i with
 |some T,some x,some i=>match T.und,x with
  | .array n e,.agg cs=>match dG E e with
   |some Te=>cond (Nat.blt i n) (vR (partOf Te cs (Nat.mul i Te.info.size))) none
   |none=>none
  | .string,.str s=>match jd s i with|some b=>some (.val (.int .u8 (.ofNat b)))|none=>none
  |_,_=>none
 |_,_,_=>none
noncomputable def CQ(ev:Ev)(t:TypeId)(m k:Operand)(ok:Bool)(h:MH):Option MR:=
 match ev m,ev k with|some m,some k=>Qd E t m k ok h|_,_=>none
noncomputable def CS(ev:Ev)(t:TypeId)(m k v:Operand)(h:MH):Option (MV×MH):=
 match ev m,ev k,ev v with|some m,some k,some v=>Zw E t m k v h|_,_,_=>none
noncomputable def JV(ev:Ev)(t:TypeId)(x:Operand)(h:MH):Option (MV×MH):=match ev x with|some x=>ZA E t x h|none=>none
noncomputable def JW(ev:Ev)(it:Operand)(s:Bool)(h:MH):Option (MV×MH):=match ev it with|some it=>Zy E it s h|none=>none
noncomputable def CU(ev:Ev)(t:Operand)(i:Nat):Option MR:=match ev t with|some (.cu vs)=>vR (jd vs i)|_=>none
noncomputable def JX(ev:Ev)(it:Operand)(h:MH):Option MV:=match ev it with|some it=>Zz it h|none=>none
noncomputable def eY(ev:Ev)(o:Op)(h:MH):Option MR:=
 match o with
 | .move x=>vR (ev x)
 | .assign x=>vR (ev x)
 | .pick c a b=>BZ ev c a b
 | .alloc t=>nJ (ZB E t)
 | .box t x=>nJ (Qk E ev t x)
 | .build t parts=>Cc E ev t parts
 | .buildSlice t len parts=>nJ (Ql E ev t len parts)
 | .load t x=>Ce E ev t x h
 | .store t x v=>mr (JU E ev t x v h)
 | .nilCheck x=>Cf ev x
 | .binOp op t x y _=>Cj E ev op t x y
 | .unOp op _ x=>Cm ev op x
 | .convert s d x=>zO E ev s d x h
 | .makeFunc fn first captured=>CB ev fn first captured
 | .makeMap t r=>nJ (Qn E ev t r)
 | .makeSlice t l c=>nJ (Qo E ev t l c)
 | .slice t x lo hi mx=>CE E ev t x lo hi mx
 | .fieldAddr t x f=>CG E ev t x f
 | .field t x f=>CJ E ev t x f
 | .indexAddr t x i=>CO E ev t x i
 | .index t x i=>CP E ev t x i
 | .lookup t m k ok=>CQ E ev t m k ok h
 | .mapUpdate t m k v=>mr (CS E ev t m k v h)
 | .insert t m k v=>mr (CS E ev t m k v h)
 | .range t x=>mr (JV E ev t x h)
 | .next it s=>mr (JW E ev it s h)
 | .entry it=>vR (JX ev it h)
 | .extract t i=>CU ev t i
 | .call c=>wE E ev c h
 |_=>none
end ops
end Go.aY
