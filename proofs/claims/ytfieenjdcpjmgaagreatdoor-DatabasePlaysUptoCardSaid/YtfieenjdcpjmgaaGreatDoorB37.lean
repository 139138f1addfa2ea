/- A part of the proof. -/
import Derived.Test.YtfieenjdcpjmgaaGreatDoorB26
import Derived.Test.YtfieenjdcpjmgaaGreatDoorB33
import Derived.Test.YtfieenjdcpjmgaaGreatDoorB35
import Derived.Test.YtfieenjdcpjmgaaGreatDoorB36
set_option maxRecDepth 100000
set_option maxHeartbeats 16000000
namespace Go.Proofs.YtfieenjdcpjmgaaGreatDoor
open Go.RowKit Go.WW
structure x8(w0:World)(T7 b n e p:Nat)(re:ByteArray)(k:Nat)(S:Nat→Prop)(es ps:Sl)(D:Db)(X:List EE)(wr:World):Prop where
 box:wr.heap[T7]?=some (.cells (ak es ps D) 32)
 nO:iR S b n e p re es ps D X k wr
 out:Below w0.heap.size w0 wr
 fr:∀j,S j→w0.heap.size≤j
 xJ:∀j,aZ b n e p j→j≠T7
 b7:w0.heap.size≤T7
 in7:S T7
theorem x8.later{w0:World}{T7 b n e p k:Nat}{re:ByteArray}{S:Nat→Prop}{es ps:Sl}{D:Db}{X:List EE}{wr V:World}(h:x8 w0 T7 b n e p re k S es ps D X wr)(hb:Below wr.heap.size wr V):x8 w0 T7 b n e p re k S es ps D X V:=
 ⟨aJ hb h.box,h.nO.later hb,ag h.out hb,h.fr,h.xJ,h.b7,h.in7⟩
theorem x8.next{w0:World}{T7 b n e p k:Nat}{re:ByteArray}{S S':Nat→Prop}{es ps es' ps':Sl}{D D':Db}{X X':List EE}{wr V:World}(h:x8 w0 T7 b n e p re k S es ps D X wr)(hb:But (aZ b n e p) wr V)(hd:iR S' b n e p re es' ps' D' X' (k+1) V)(hS:∀j,S' j→S j∨wr.heap.size≤j)(hSS:∀j,S j→S' j) :
  x8 w0 T7 b n e p re (k+1) S' es' ps' D' X' (putRow V T7 0 (ak es' ps' D')):=by
 have l7:T7<wr.heap.size:=(Array.getElem?_eq_some_iff.1 h.box).1
 obtain⟨_,_,_,hp,_⟩:=h.nO.ex
 have m7:¬aZ b n e p T7:=fun hj=>h.xJ _ hj rfl
 have hbx:V.heap[T7]?=some (.cells (ak es ps D) 32):=(hb.block _ l7 m7).trans h.box
 have Bo:But (one T7) V (putRow V T7 0 (ak es' ps' D')):=(But.refl _ _).put rfl
 refine⟨?_,hd.off Bo (fun j (hj:j=T7)=>⟨hj▸hSS _ h.in7,hj▸m7⟩),?_,fun j hj=>?_,h.xJ,h.b7,hSS _ h.in7⟩
 ·have:=kM (o:=0) (cs:=ak es' ps' D') hbx (by simp[jD])
  rwa[nZ (by simp[jD])]at this
 ·have h1:But (aZ b n e p) w0 V:=(But.of_below h.out).trans hb
  have h2:But (fun j=>w0.heap.size≤j) w0 (putRow V T7 0 (ak es' ps' D')):=(h1.mono fun j hj=>h.fr j (hp.sub j hj)).trans (Bo.mono fun j (hj:j=T7)=>hj▸h.b7)
  exact h2.below (Nat.le_refl _) fun j hj=>hj
 ·rcases hS j hj with h1|h1
  ·exact h.fr j h1
  ·have:=h.out.size;omega
theorem apl(re:ByteArray)(a:Option Addr)(cap:Nat)(l:List fU)(w:World)(hs:re.size≤lim)(hl:vM w a l)(hT:wz Tryz.prog w):Calls Tryz.prog 3 #[.string re,.slice a l.length cap] w fun z w'=>z=.returned (.bool true)∧Below w.heap.size w w':=by
 have HL:=Lib.hid hl
 have HT:=Lib.hid hT
 clear hl hT
 by_cases JA:(40:Int)<(re.size:Int)
 ·go_enter Tryz.func3,Tryz.ntmps3
  go_wp2_with fail
  refine(Jp _ (kG HT.out (Below.refl _ w))).mono ?_
  rintro z wk ⟨rfl,hbk⟩
  dsimp only
  go_wp2_with fail
  go_ret
  exact⟨rfl,ag (Below.refl _ w) hbk⟩
 have hsz:re.size≤40:=by omega
 go_enter Tryz.func3,Tryz.ntmps3
 go_wp2_with fail
 refine(apd a cap l 12 w HL.out).mono ?_
 rintro z w1 ⟨c,rfl,hc,hb1⟩
 cases c
 case false=>
  clear hc
  dsimp only
  go_wp2_with fail
  refine(Jp _ (kG HT.out hb1)).mono ?_
  rintro z wk ⟨rfl,hbk⟩
  dsimp only
  go_wp2_with fail
  go_ret
  exact⟨rfl,ag hb1 hbk⟩
 have apm:l.length≤12:=by have:=hc rfl;omega
 clear hc JA
 dsimp only
 cases hok:gU re
 case false=>
  have HN:=Lib.hid (aph re w1 hs hok)
  have HR:=Lib.hid (fun w=>apk re w hs hok)
  clear hok apm
  go_wp2_with fail
  refine HN.out.mono ?_
  rintro z w2 ⟨rfl,hb2⟩
  dsimp only
  go_wp2_with fail
  refine(HR.out w2).mono ?_
  rintro z w3 ⟨rfl,hb3⟩
  dsimp only
  have HB:=Lib.hid (aj (ag hb1 (ag hb2 hb3)) (.cells (ak bF bF iZ) 32))
  clear hb1 hb2 hb3 HN HR
  go_wp2_with fail
  generalize (w3.alloc (.cells (ak bF bF iZ) 32))=W at *
  refine(lN _ W).mono ?_
  rintro z w' ⟨rfl,rfl⟩
  dsimp only
  go_wp2_with fail
  refine wp_loop_rounds 1 ?_
  rw[rounds_succ]
  rcases(by omega:(0:Int)<(l.length:Int)∨¬(0:Int)<(l.length:Int))with h0|h0
  all_goals
   go_wp2_with fail
   refine(Jp _ (kG HT.out HB.out)).mono ?_
   rintro z wk ⟨rfl,hbk⟩
   dsimp only
   go_wp2_with fail
   go_ret
   exact⟨rfl,ag HB.out hbk⟩
 have HN:=Lib.hid (Ld re w1 hs hok)
 have HR:=Lib.hid (fun w=>ajP re w hs hok)
 have hre:¬re=⟨#[]⟩:=ape hok
 clear hok
 go_wp2_with fail
 refine HN.out.mono ?_
 rintro z w2 ⟨b,n,e,p,rfl,hb2,oD,l1,l2,l4,l5⟩
 dsimp only
 go_wp2_with fail
 refine(HR.out w2).mono ?_
 rintro z w3 ⟨rfl,hb3⟩
 dsimp only
 have hx7:=World.alloc_heap_new w3 (.cells (ak bF bF (eQ re)) 32)
 have Qp:Below w2.heap.size w2 (w3.alloc (.cells (ak bF bF (eQ re)) 32)):=aj hb3 _
 have aaX:=oD.later Qp
 have hs1:=hb1.size
 have hs2:=hb2.size
 have hs3:=hb3.size
 have hs7:w3.heap.size<(w3.alloc (.cells (ak bF bF (eQ re)) 32)).heap.size:=by simp
 have hof:∀j,aZ b n e p j→w1.heap.size≤j∧j<w2.heap.size:=fun j hj=>⟨by rcases hj with rfl|rfl|rfl|rfl<;>assumption,oD.Iz j hj⟩
 have hV:x8 w w3.heap.size b n e p re 0 (fun j=>aZ b n e p j∨j=w3.heap.size) bF bF (eQ re) [] (w3.alloc (.cells (ak bF bF (eQ re)) 32)):=by
  refine⟨hx7,apg aaX (fun j hj=>.inl hj) (fun j hj=>?_),ag (ag hb1 hb2) Qp,fun j hj=>?_,fun j hj=>?_,by omega,.inr rfl⟩
  ·rcases hj with hj|rfl
   ·have:=hof j hj;omega
   ·exact hs7
  ·rcases hj with hj|rfl
   ·have:=hof j hj;omega
   ·omega
  ·have:=hof j hj;omega
 clear oD aaX l1 l2 l4 l5 hb1 hb2 hb3 Qp HN HR hof hx7 hs1 hs2 hs3
 go_wp2_with fail
 generalize (w3.alloc (.cells (ak bF bF (eQ re)) 32))=V7 at *
 generalize w3.heap.size=T7 at *
 refine(lN _ _).mono ?_
 rintro y w' ⟨rfl,rfl⟩
 dsimp only
 go_wp2_with fail
 go_loopw [9] (fun iv wr=>∃(k:Nat) (S:Nat→Prop) (es ps:Sl) (D:Db) (X:List EE),k≤l.length∧iv=.int .i64 k∧x8 w T7 b n e p re k S es ps D X wr) (fun iv _=>l.length-(intOf iv).toNat)
 case atStart=>exact⟨0,_,_,_,_,_,Nat.zero_le _,rfl,hV⟩
 case round=>
  clear hV hs7
  obtain⟨w1,rfl⟩:∃w1,w1=wr:=⟨_,rfl⟩
  obtain⟨k,S,es,ps,D,X,hk,rfl,hI⟩:=hrel
  obtain⟨xc,xf,xr,xl⟩:=aB hI.box
  have HI:=Lib.hid hI
  by_cases hlt:k<l.length
  ·have hki:(k:Int)<(l.length:Int):=by omega
   obtain⟨bA,oA,z,ha,hrow0,Fg⟩:=aX.XJ HL.out k hlt
   have hrow:row? w1 bA (oA+k*33) 33=some (gW z l[k]):=(gZ (hI.out.block _ (gm hrow0)) _ _).trans hrow0
   have jH:bA<w1.heap.size:=gm hrow
   have hwA:bA<w.heap.size:=gm hrow0
   obtain⟨_,_,_,hp,_⟩:=hI.nO.ex
   have HOF:=Lib.hid (show ∀j,aZ b n e p j→w.heap.size≤j∧j≠T7 from fun j hj=>⟨hI.fr j (hp.sub j hj),hI.xJ j hj⟩)
   clear hI hp hrow0
   generalize l[k]=xk at *
   have Qq:=Lib.hid Fg
   have hn7:¬aZ b n e p T7:=fun hj=>(HOF.out _ hj).2 rfl
   have hnA:¬aZ b n e p bA:=fun hj=>by have:=(HOF.out _ hj).1;have:=hwA;omega
   have yO:row? w1 T7 0 4=some (ak es ps D):=by rw[bQ HI.out.box];exact df (by simp[go_sem])
   clear Fg xc xf xr
   go_wp2_with fail
   apply al3 (M:=fun(T10:Nat) (es' ps':Sl) (D':Db) V=>∃S' X',But (aZ b n e p) w1 V∧V.heap[T10]?=some (.cells (ak es' ps' D') 32)∧w1.heap.size≤T10∧iR S' b n e p re es' ps' D' X' (k+1) V∧(∀j,S' j→S j∨w1.heap.size≤j)∧(∀j,S j→S' j))
   case h1=>
    refine al4 10 6 [0,1,2,3,4,5,10,6,7,8,9,11,12] (aZ b n e p) (But.refl _ w1) (by kernel_rfl) (by kernel_rfl) (by rfl) ?_ ?_
    ·repeat (first|(refine ax (by rfl) ?_)|(refine aP (by rfl) (by rfl) (fun K hK=>?_);go_big_quiet_op;refine hK _ ?_;clear hK K))
     refine aU (by rfl) (by rfl) (fun K hK=>?_)
     go_wp2_with fail
     refine(XZ S b n e p re es ps D X k w z xk w1.drew (HI.out.nO.later (Below.refl _ w1).drew) hre (by omega) (HI.out.out.drew) Qq.out (fun j hj=>HI.out.fr j hj)).mono ?_
     rintro y V ⟨S',es',ps',D',X',rfl,ed,zW,hS',hSS⟩
     dsimp only
     have wJ:But (aZ b n e p) w1 V:=(But.refl _ w1).drew.trans ed
     refine hK _ _ (dw wJ) ?_
     clear hK K
     repeat (first|(refine ax (by rfl) ?_)|(refine aP (by rfl) (by rfl) (fun K hK=>?_);go_big_quiet_op;refine hK _ ?_;clear hK K))
     refine aU (by rfl) (by rfl) (fun K hK=>?_)
     go_wp2_with fail
     refine hK _ _ (dw (wJ.trans (But.of_below (aj (Below.refl _ V) _)))) ?_
     clear hK K
     repeat (first|(refine ax (by rfl) ?_)|(refine aP (by rfl) (by rfl) (fun K hK=>?_);go_big_quiet_op;refine hK _ ?_;clear hK K))
     refine aU (by rfl) (by rfl) (fun K hK=>?_)
     go_wp2_with fail
     refine hK _ _ (dw (wJ.trans (But.of_below (aj (Below.refl _ V) (.cells (ak es' ps' D') 32))))) ?_
     clear hK K
     repeat (first|(refine ax (by rfl) ?_)|(refine aP (by rfl) (by rfl) (fun K hK=>?_);go_big_quiet_op;refine hK _ ?_;clear hK K))
     refine bV ?_
     have hnew:=World.alloc_heap_new V (.cells (ak es' ps' D') 32)
     have hdN:=zW.later (aj (Below.refl _ V) (.cells (ak es' ps' D') 32))
     have hbN:=wJ.trans (But.of_below (aj (Below.refl _ V) (.cells (ak es' ps' D') 32)))
     have hge:w1.heap.size≤V.heap.size:=wJ.size
     clear ed zW wJ
     generalize (V.alloc (.cells (ak es' ps' D') 32))=VV at *
     generalize V.heap.size=T10 at *
     go_wp2_with fail
     exact⟨trivial,T10,es',ps',D',rfl,⟨S',X',hbN,hnew,hge,hdN,hS',hSS⟩⟩
    ·simp only[pick,List.getElem?_cons_zero,List.getElem?_cons_succ]
     iterate 6 (refine aP (by kernel_rfl) (by kernel_rfl) (fun K hK=>?_);go_big_quiet_op;refine hK _ ?_;clear hK K)
     refine aU (by rfl) (by rfl) (fun K hK=>?_)
     go_wp2_with fail
     refine hK _ _ (dw (But.of_below (aj (Below.refl _ w1).drew _))) ?_
     clear hK K
     have hz1:((w1.alloc (.cells (ak bF bF iZ) 32)).drew).heap[w1.heap.size]?=some (.cells (ak bF bF iZ) 32):=World.alloc_heap_new w1 _
     have eP:Below w1.heap.size w1 ((w1.alloc (.cells (ak bF bF iZ) 32)).drew):=(aj (Below.refl _ w1) _).drew
     have hzs:w1.heap.size<((w1.alloc (.cells (ak bF bF iZ) 32)).drew).heap.size:=(Array.getElem?_eq_some_iff.1 hz1).1
     have aaZ:¬aZ b n e p w1.heap.size:=fun hj=>by
      obtain⟨_,_,_,hp,_⟩:=HI.out.nO.ex
      have:=hp.lt _ hj;omega
     have hdZ:iR (fun j=>S j∨j=w1.heap.size) b n e p re es ps D X k ((w1.alloc (.cells (ak bF bF iZ) 32)).drew):=HI.out.nO.wide eP (fun j hj=>hj.imp id fun h=>by omega) (fun j hj=>.inl hj) (fun j hj=>by
      rcases hj with hj|rfl
      ·exact Nat.lt_of_lt_of_le (HI.out.nO.lt j hj) eP.size
      ·exact hzs)
     have hwT:=HI.out.out.size
     refine aU (by rfl) (by rfl) (fun K hK=>?_)
     go_wp2_with fail
     refine(XZ (fun j=>S j∨j=w1.heap.size) b n e p re es ps D X k w z xk ((w1.alloc (.cells (ak bF bF iZ) 32)).drew) hdZ hre (by omega) (ag HI.out.out eP) Qq.out (fun j hj=>by
      rcases hj with hj|rfl
      ·exact HI.out.fr j hj
      ·exact hwT)).mono ?_
     rintro y V ⟨S',es',ps',D',X',rfl,ed,zW,hS',hSS⟩
     dsimp only
     have wJ:But (aZ b n e p) w1 V:=(But.of_below eP).trans ed
     refine hK _ _ (dw wJ) ?_
     clear hK K
     have hz2:V.heap[w1.heap.size]?=some (.cells (ak bF bF iZ) 32):=(ed.block _ hzs aaZ).trans hz1
     have hcp:aS V w1.heap.size 0 4=true:=lY hz2 (by simp[go_sem])
     have hnew:(putRow V w1.heap.size 0 (ak es' ps' D')).heap[w1.heap.size]?=some (.cells (ak es' ps' D') 32):=(kM hz2 (by simp[go_sem])).trans (by rw[nZ (by simp[go_sem])])
     have hbN:But (aZ b n e p) w1 (putRow V w1.heap.size 0 (ak es' ps' D')):=wJ.past ((But.refl _ V).put (S:=one w1.heap.size) rfl) (fun j (hj:j=_)=>by omega)
     have hdN:=zW.off ((But.refl _ V).put (S:=one w1.heap.size) (cs:=ak es' ps' D') (o:=0) rfl) (fun j (hj:j=_)=>⟨hj▸hSS _ (.inr rfl),hj▸aaZ⟩)
     have hZw:=eP.size
     have HS:=Lib.hid hS'
     have OL:=Lib.hid hSS
     have HZ:=Lib.hid hZw
     clear hS' hSS hZw
     repeat (first|(refine ax (by rfl) ?_)|(refine aP (by rfl) (by rfl) (fun K hK=>?_);go_big_quiet_op;refine hK _ ?_;clear hK K))
     refine aU (by rfl) (by rfl) (fun K hK=>?_)
     go_wp2_with fail
     refine hK _ _ (dw hbN) ?_
     clear hK K
     repeat (first|(refine ax (by rfl) ?_)|(refine aP (by rfl) (by rfl) (fun K hK=>?_);go_big_quiet_op;refine hK _ ?_;clear hK K))
     refine bV ?_
     go_wp2_with fail
     refine⟨trivial,w1.heap.size,es',ps',D',?_,⟨S',X',hbN,hnew,Nat.le_refl _,hdN,fun j hj=>by
      rcases HS.out j hj with(h|h)|h
      ·exact .inl h
      ·exact .inr (by omega)
      ·exact .inr (by have:=HZ.out;omega),fun j hj=>OL.out j (.inl hj)⟩⟩
     generalize w1.heap.size=T10
     rfl
   rintro T10 es' ps' D' V ⟨S',X',ed,Qr,h10,zW,hS',hSS⟩
   have aa1:V.heap[T7]?=some (.cells (ak es ps D) 32):=(ed.block _ xl hn7).trans HI.out.box
   have apq:aS V T7 0 4=true:=lY aa1 (by simp[go_sem])
   have Qc:row? V T10 0 4=some (ak es' ps' D'):=by rw[bQ Qr];exact df (by simp[go_sem])
   have hN:=HI.out.next ed zW hS' hSS
   have HN:=Lib.hid hN
   have apr:T10<V.heap.size:=(Array.getElem?_eq_some_iff.1 Qr).1
   have Fh:row? (putRow V T7 0 (ak es' ps' D')) bA (oA+k*33) 33=some (gW z xk):=(gZ ((hN.out.block _ hwA).trans (HI.out.out.block _ hwA).symm) _ _).trans hrow
   have arQ:bA<(putRow V T7 0 (ak es' ps' D')).heap.size:=gm Fh
   have arR:row? (putRow V T7 0 (ak es' ps' D')) T7 0 4=some (ak es' ps' D'):=by rw[bQ hN.box];exact df (by simp[go_sem])
   obtain⟨uc,uf,ur,ul⟩:=aB hN.box
   have Qu:=Qq.out.later hN.out
   have HQ1:=Lib.hid Qu.zn
   have HQ2:=Lib.hid Qu.Bd.name
   obtain⟨kZ,E',P',hP',hR'⟩:=hN.nO.ex
   have hEl:E'.length=D'.entries.length:=by rw[hR'.eq,List.length_map];have:=hR'.perm.length_eq;simpa using this
   have HP':=Lib.hid hP'.db
   clear Qr zW hS' hSS ed aa1 hrow yO hN Qu hP' hR'
   iterate 3 go_step
   apply Ig (M:=fun U=>U=putRow V T7 0 (ak es' ps' D'))
   case h1=>
    go_wp2_with fail
    exact⟨rfl,⟨rfl⟩⟩
   rintro U0 rfl
   generalize (putRow V T7 0 (ak es' ps' D'))=U at *
   have hq1:=XH Fh
   have hq2:=XI Fh
   have Qv:=XG Fh
   have hq3:row? U bA (oA+k*33+1) 2=some (ah z.r.parts xk.d.name):=(CZ Qv (by omega)).trans (Cf z.r xk.d)
   have hq4:U.cell? ⟨bA,oA+k*33+1+6,none⟩=some (.string xk.d.aO):=(gX Qv 6 (by omega)).trans (FB z.r xk.d)
   clear Qv Fh apq Qc apr h10
   go_wp2_with fail
   refine pW (Below.refl _ U) (by kernel_rfl) (by kernel_rfl) ?_
   intro v1 hv1
   repeat (first|(refine ax (by rfl) ?_)|(refine aI (by rfl) (by rfl) (fun K hK=>?_);go_big_quiet_op;refine hK _ ?_;clear hK K))
   refine aK (by rfl) (by rfl) (fun K hK=>?_)
   go_wp2_with fail
   refine(Yc S' b n e p re es' ps' D' X' (k+1) z.t xk.q xk.p.name v1 (HN.out.nO.later hv1) hre (HQ1.out.later hv1)).mono ?_
   rintro y v2 ⟨rfl,hv2⟩
   have aV:=ag hv1 hv2
   dsimp only
   refine hK _ _ (aA aV) ?_
   clear hK K
   repeat (first|(refine ax (by rfl) ?_)|(refine aI (by rfl) (by rfl) (fun K hK=>?_);go_big_quiet_op;refine hK _ ?_;clear hK K))
   refine aK (by rfl) (by rfl) (fun K hK=>?_)
   go_wp2_with fail
   refine(Yc S' b n e p re es' ps' D' X' (k+1) z.r.parts xk.d.name xk.d.aO v2 (HN.out.nO.later aV) hre (HQ2.out.later aV)).mono ?_
   rintro y v3 ⟨rfl,hv3⟩
   have zX:=ag aV hv3
   dsimp only
   refine hK _ _ (aA zX) ?_
   clear hK K
   repeat (first|(refine ax (by rfl) ?_)|(refine aI (by rfl) (by rfl) (fun K hK=>?_);go_big_quiet_op;refine hK _ ?_;clear hK K))
   refine aK (by rfl) (by rfl) (fun K hK=>?_)
   go_wp2_with fail
   refine(NT b n e p re D'.ay (dU kZ) E' P' v3 (HP'.out.later zX) hre).mono ?_
   rintro y v' ⟨rfl,rfl⟩
   dsimp only
   refine hK _ _ (aA zX) ?_
   clear hK K
   repeat (first|(refine ax (by rfl) ?_)|(refine aI (by rfl) (by rfl) (fun K hK=>?_);go_big_quiet_op;refine hK _ ?_;clear hK K))
   refine aK (by rfl) (by rfl) (fun K hK=>?_)
   go_wp2_with fail
   refine(XP b n e p re D'.ay (dU kZ) E' P' v3 (HP'.out.later zX) hre).mono ?_
   rintro y v' ⟨rfl,rfl⟩
   rw[hEl]
   dsimp only
   refine hK _ _ (aA zX) ?_
   clear hK K
   repeat (first|(refine ax (by rfl) ?_)|(refine aI (by rfl) (by rfl) (fun K hK=>?_);go_big_quiet_op;refine hK _ ?_;clear hK K))
   refine bV ?_
   have PK:=Lib.hid (HN.out.later zX)
   clear hv1 hv2 aV hv3 zX
   go_wp2_with fail
   go_roundw
   case rel=>
    try rw[←ha]
    (repeat apply Exists.intro)
    exact⟨⟨k+1,S',es',ps',D',X',by omega,by go_num,PK.out⟩,rfl⟩
   case measure=>simp[intOf];omega
  ·obtain rfl:k=l.length:=by omega
   have hki:¬(l.length:Int)<(l.length:Int):=by omega
   have yO:row? w1 T7 0 4=some (ak es ps D):=by rw[bQ hI.box];exact df (by simp[go_sem])
   clear hI xc xf xr
   go_wp2_with fail
   refine(aor S b n e p re es ps D X l.length w1 HI.out.nO (by omega) (by have:=HI.out.nO.n1;omega) (by have:=HI.out.nO.n2;omega) (kG HT.out HI.out.out) hre (by omega)).mono ?_
   rintro z w2 ⟨rfl,hb2⟩
   dsimp only
   go_wp2_with fail
   refine(Jp _ (kG HT.out (ag HI.out.out hb2))).mono ?_
   rintro z wk ⟨rfl,hbk⟩
   dsimp only
   go_wp2_with fail
   go_ret
   exact⟨rfl,ag (ag HI.out.out hb2) hbk⟩
end Go.Proofs.YtfieenjdcpjmgaaGreatDoor
