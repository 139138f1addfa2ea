/- A part of the proof. -/
import Derived.Test.YtfieenjdcpjmgaaGreatDoorB25
import Derived.Test.YtfieenjdcpjmgaaGreatDoorB22
set_option maxRecDepth 100000
set_option maxHeartbeats 16000000
namespace Go.Proofs.YtfieenjdcpjmgaaGreatDoor
open Go.RowKit Go.WW
attribute [local go_sem] alM
attribute [local irreducible] fV uz pG zt
theorem Yc(S:Nat→Prop)(b n e p:Nat)(re:ByteArray)(es ps:Sl)(D:Db)(X:List EE)(N:Nat)(t:Sl)(q:az)(pk:ByteArray)(w:World)(h:iR S b n e p re es ps D X N w)(hre:¬re=⟨#[]⟩)(hq:bn w t q) :
  Calls Tryz.prog 11 #[.pointer (some ⟨b,0,none⟩),.agg (ak es ps D),.agg (ah t q),.string pk] w fun z w'=>z=.returned (.bool true)∧Below w.heap.size w w':=by
 have hB:Below w.heap.size w ((w.alloc (.cells (ak es ps D) 32)).alloc (.cells (ah t q) 40)):=aj (aj (Below.refl _ _) _) _
 have h5:((w.alloc (.cells (ak es ps D) 32)).alloc (.cells (ah t q) 40)).heap[w.heap.size]?=some (.cells (ak es ps D) 32):=jq _ _ _
 have h6:((w.alloc (.cells (ak es ps D) 32)).alloc (.cells (ah t q) 40)).heap[w.heap.size+1]?=some (.cells (ah t q) 40):=by
  have:=World.alloc_heap_new (w.alloc (.cells (ak es ps D) 32)) (.cells (ah t q) 40)
  rwa[World.size_alloc]at this
 have HD:=Lib.hid (h.later hB)
 have HQ:=Lib.hid (hq.later hB)
 have HB:=Lib.hid hB
 clear h hq hB
 have hsW:((w.alloc (.cells (ak es ps D) 32)).alloc (.cells (ah t q) 40)).heap.size=w.heap.size+2:=by simp
 go_enter Tryz.func11,Tryz.ntmps11
 go_wp2_with fail
 generalize ((w.alloc (.cells (ak es ps D) 32)).alloc (.cells (ah t q) 40))=W0 at *
 obtain⟨ac,af,ar,al⟩:=aB h5
 obtain⟨bc,bf,br,bl⟩:=aB h6
 refine(al8 S b n e p re es ps D X N t q W0 HD.out hre HQ.out).mono ?_
 rintro z W1 ⟨r',rfl,hb1,hw1⟩
 have HW1:=Lib.hid hw1
 dsimp only
 have hV1:=aj hb1 (.cells (ae r' (fV D q)) 47)
 have Yd:=World.alloc_heap_new W1 (.cells (ae r' (fV D q)) 47)
 have Ye:=aJ hV1 h6
 have hs1:=hb1.size
 clear ac af ar al bc bf br bl hw1
 obtain⟨bc,bf,br,bl⟩:=aB Ye
 go_wp2_with fail
 refine(al9 S b n e p re es ps D X N t q _ (HD.out.later hV1) hre (HQ.out.later hV1)).mono ?_
 rintro z W2 ⟨s',rfl,hb2,hp2⟩
 dsimp only
 have hV2:=ag hV1 (aj hb2 (.cells (ah s' (fV D q).name) 40))
 have h112:=World.alloc_heap_new W2 (.cells (ah s' (fV D q).name) 40)
 have Yf:=aJ (aj hb2 (.cells (ah s' (fV D q).name) 40)) Yd
 have HP2:=Lib.hid (hp2.later (aj (Below.refl _ W2) (.cells (ah s' (fV D q).name) 40)))
 have h12:Below W1.heap.size W1 (W2.alloc (.cells (ah s' (fV D q).name) 40)):=ag (aj (Below.refl _ W1) (.cells (ae r' (fV D q)) 47)) (aj hb2 (.cells (ah s' (fV D q).name) 40))
 have hs2:W1.heap.size<W2.heap.size:=by have:=hb2.size;rw[World.size_alloc]at this;omega
 clear bc bf br bl Yd Ye hp2
 go_wp2_with fail
 generalize (W2.alloc (.cells (ah s' (fV D q).name) 40))=V2 at *
 generalize W2.heap.size=T11 at *
 have Ob:=aJ hV2 h5
 have Yg:=aJ hV2 h6
 obtain⟨ac,af,ar,al⟩:=aB Ob
 refine(ama S b n e p re es ps D X N pk V2 (HD.out.later hV2) hre).mono ?_
 rintro z W3 ⟨rfl,hb3⟩
 dsimp only
 have hb4:=aj (aj hb3 (.cells (aC (pG D pk)) 50)) (.cells (ae aW aQ) 47)
 have IA:=ag hV2 hb4
 have Yh:=jq W3 (.cells (aC (pG D pk)) 50) (.cells (ae aW aQ) 47)
 have IB:=World.alloc_heap_new (W3.alloc (.cells (aC (pG D pk)) 50)) (.cells (ae aW aQ) 47)
 rw[World.size_alloc]at IB
 have IC:=aJ hb4 Ob
 have h64:=aJ hb4 Yg
 have Yi:=aJ hb4 Yf
 have Yj:=aJ hb4 h112
 have hs3:V2.heap.size≤W3.heap.size:=hb3.size
 have hs11:T11<V2.heap.size:=(Array.getElem?_eq_some_iff.1 h112).1
 clear ac af ar al Ob Yg Yf h112
 obtain⟨ac,af,ar,al⟩:=aB IC
 obtain⟨bc,bf,br,bl⟩:=aB h64
 have rV:row? ((W3.alloc (.cells (aC (pG D pk)) 50)).alloc (.cells (ae aW aQ) 47)) w.heap.size 0 4=some (ak es ps D):=by rw[bQ IC];exact df (by simp[go_sem])
 go_wp2_with fail
 generalize ((W3.alloc (.cells (aC (pG D pk)) 50)).alloc (.cells (ae aW aQ) 47))=V4 at *
 have amb:=Lib.hid (show jd V4 es.a D.entries by
  obtain⟨_,_,_,-,hR⟩:=HD.out.ex
  rw[hR.eq]
  exact(HD.out.later IA).ref.dG.out.dG)
 have l15:W3.heap.size+1<V4.heap.size:=(Array.getElem?_eq_some_iff.1 IB).1
 refine(alF es ps D t q V4 amb.out (HQ.out.later IA)).mono ?_
 rintro z V5 ⟨rfl,hb5⟩
 dsimp only
 have cO:=ag IA hb5
 have Yk:=aJ hb5 IC
 have h95:=aJ hb5 Yi
 have Oc:=aJ hb5 Yj
 have Oe:=aJ hb5 Yh
 have zu:=aJ hb5 IB
 have hs5:=hb5.size
 clear ac af ar al bc bf br bl rV IC h64 Yi Yj Yh IB
 obtain⟨ac,af,ar,al⟩:=aB Yk
 have hS0:=Lib.hid (show ∀k,S k→k<W0.heap.size from HD.out.lt)
 have HD5:=Lib.hid (show iR (fun k=>S k∨span W0.heap.size V5.heap.size k) b n e p re es ps D X N V5 from HD.out.wide cO (fun k hk=>hk.imp id fun h=>h.1) (fun k hk=>.inl hk) (fun k hk=>by
  rcases hk with hk|hk
  ·have:=hS0.out k hk;have:=cO.size;omega
  ·exact hk.2))
 have Yl:=Lib.hid (show ∀k,aZ b n e p k→k<W0.heap.size from fun k hk=>by
  obtain⟨_,_,_,hP,-⟩:=HD.out.ex
  exact hS0.out k (hP.sub k hk))
 have HG:=Lib.hid (show(idxOf (fun d=>gq d q) D.entries=-1∧fV D q=aQ∧uz D q=9)∨∃i,∃hi:i<X.length,idxOf (fun d=>gq d q) D.entries=(i:Int)∧fV D q=X[i].2∧uz D q=0 by
  obtain⟨_,_,_,-,hR⟩:=HD.out.ex
  rcases hR.got q with⟨e0,e1,e2,-⟩|⟨i,hi,e0,e1,e2,-⟩
  ·exact .inl ⟨e0,e1,e2⟩
  ·exact .inr ⟨i,hi,e0,e1,e2⟩)
 have h15:=Lib.hid (show W0.heap.size≤W3.heap.size+1∧W3.heap.size+1<V5.heap.size by
  have:=hV2.size
  constructor
  ·omega
  ·omega)
 have Hq:W1.heap.size≠W3.heap.size+1:=by omega
 rcases HG.out with hh|hh
 case' inl=>
  obtain⟨e0,e1,e2⟩:=hh
  rw[e0]
  obtain⟨V6,IE⟩:∃V6,V6=V5:=⟨_,rfl⟩
  obtain⟨rr,hrr⟩:∃rr,rr=aW:=⟨_,rfl⟩
  rw[←hrr,←e1]at zu
  have Ej:=zu
  rw[←IE]at Ej
  have hb6:But (one (W3.heap.size+1)) V5 V6:=by rw[IE];exact But.refl _ _
  have Og:=Lib.hid (show bK V6 rr (fV D q) by rw[e1,hrr];exact Gx _)
  have tV:row? V5 W1.heap.size 0 17=some (ae r' (fV D q)):=by rw[bQ h95];exact df (by simp[go_sem])
  have Oh:row? V5 (W3.heap.size+1) 0 17=some (ae rr (fV D q)):=by rw[bQ zu];exact df (by simp[go_sem])
  clear zu e0 hrr e1
  have Ym:=Lib.hid IE
  clear IE
  go_wp2_with fail
  rw[←Ym.out]at tV Oh ⊢
  clear Ym
 case' inr=>
  obtain⟨i,hi,e0,e1,e2⟩:=hh
  rw[e0]
  have hX:=HD5.out.ref.dG.out
  obtain⟨bE,oE,_,ha,-,-⟩:=hX.dG.get i (by simpa using hi)
  have hx:=hX.rows
  rw[ha]at hx
  have hc:=hx.at i hi
  have hlt:i<D.entries.length:=by obtain⟨_,_,_,-,hR⟩:=HD.out.ex;rw[hR.eq,List.length_map];exact hi
  have hki:(i:Int)<(D.entries.length:Int):=by omega
  have hcp:aS V5 (W3.heap.size+1) 0 17=true:=lY zu (by simp[go_sem])
  rw[←e1]at hc
  have hi64:i<4294967296:=by have:=hX.dG.1;simp[lim]at this;omega
  have Ej:(putRow V5 (W3.heap.size+1) 0 (ae X[i].1 (fV D q))).heap[W3.heap.size+1]?=some (.cells (ae X[i].1 (fV D q)) 47):=(kM zu (by simp[go_sem])).trans (by rw[nZ (by simp[go_sem])])
  have hb6:But (one (W3.heap.size+1)) V5 (putRow V5 (W3.heap.size+1) 0 (ae X[i].1 (fV D q))):=(But.refl _ V5).put rfl
  have ha6:=(HD5.out.ref.on (hb6.mono fun k (hk:k=_)=>.inr (hk▸h15.out))).dG.out.each X[i] (List.getElem_mem hi)
  rw[←e1]at ha6
  have Og:=Lib.hid ha6
  clear ha6
  have tV:row? (putRow V5 (W3.heap.size+1) 0 (ae X[i].1 (fV D q))) W1.heap.size 0 17=some (ae r' (fV D q)):=by rw[bQ ((hb6.block _ (Array.getElem?_eq_some_iff.1 h95).1 (bu Hq)).trans h95)];exact df (by simp[go_sem])
  have Oh:row? (putRow V5 (W3.heap.size+1) 0 (ae X[i].1 (fV D q))) (W3.heap.size+1) 0 17=some (ae X[i].1 (fV D q)):=by rw[bQ Ej];exact df (by simp[go_sem])
  clear zu e0 e1 hX
  go_wp2_with fail
  clear hcp hc hx
  generalize (putRow V5 (W3.heap.size+1) 0 (ae X[i].1 (fV D q)))=V6 at *
  generalize X[i].1=rr at *
 all_goals
  rw[e2]
  have Oi:Below W0.heap.size W0 V6:=((But.of_below (S:=fun j=>W0.heap.size≤j) cO).trans (hb6.mono fun j (hj:j=_)=>by have:=h15.out;omega)).below (Nat.le_refl _) fun j hj=>hj
  have Yn:Below W1.heap.size W1 V6:=((But.of_below (S:=fun j=>W1.heap.size≤j) (ag h12 (ag hb4 hb5))).trans (hb6.mono fun j (hj:j=_)=>by omega)).below (Nat.le_refl _) fun j hj=>hj
  have Yo:Below V2.heap.size V2 V6:=((But.of_below (S:=fun j=>V2.heap.size≤j) (ag hb4 hb5)).trans (hb6.mono fun j (hj:j=_)=>by omega)).below (Nat.le_refl _) fun j hj=>hj
  have Yp:=Lib.hid (HW1.out.later Yn)
  have HP6:=Lib.hid (HP2.out.later Yo)
  have HD6:=Lib.hid (HD5.out.off hb6 (fun k (hk:k=_)=>⟨.inr (hk▸h15.out),fun hj=>by have:=Yl.out k hj;have:=h15.out;omega⟩))
  have mX:=Lib.hid Oi
  have Oj:=aJ Oi h5
  have Yq:=(hb6.block _ (Array.getElem?_eq_some_iff.1 h95).1 (bu Hq)).trans h95
  have h116:=(hb6.block _ (Array.getElem?_eq_some_iff.1 Oc).1 (bu (show T11≠W3.heap.size+1 by omega))).trans Oc
  have Ol:=(hb6.block _ (Array.getElem?_eq_some_iff.1 Oe).1 (bu (show W3.heap.size≠W3.heap.size+1 by omega))).trans Oe
  clear Oi Yn Yo hb6 tV Oh cO Yk h95 Oc Oe IA ac af ar al hb5 hb4 h12
  refine(XW r' rr _ _ V6 Yp.out.at_ Og.out).mono ?_
  rintro z V7 ⟨rfl,hb7⟩
  rw[XV]
  dsimp only
  have Yr:=aJ hb7 h116
  have Yt:=aJ hb7 Ej
  obtain⟨ac,af,ar,al⟩:=aB Yr
  obtain⟨bc,bf,br,bl⟩:=aB Yt
  go_wp2_with fail
  refine(lN _ V7).mono ?_
  rintro z w' ⟨rfl,rfl⟩
  dsimp only
  go_wp2_with fail
  refine(nV s' rr.parts (fV D q).name (fV D q).name V7 (HP6.out.later hb7) (Og.out.later hb7).name).mono ?_
  rintro z V8 ⟨rfl,hb8⟩
  rw[Ir]
  dsimp only
  have rM:=ag hb7 hb8
  have tV:row? V8 W1.heap.size 0 17=some (ae r' (fV D q)):=by rw[bQ (aJ rM Yq)];exact df (by simp[go_sem])
  clear ac af ar al bc bf br bl
  go_wp2_with fail
  refine(lN _ V8).mono ?_
  rintro z w' ⟨rfl,rfl⟩
  dsimp only
  go_wp2_with fail
  refine(Xc (span W0.heap.size W1.heap.size) r' _ V8 (Yp.out.later rM)).mono ?_
  rintro z V9 ⟨rfl,dW⟩
  dsimp only
  have Om:V9.heap[w.heap.size]?=some (.cells (ak es ps D) 32):=(dW.block _ (Array.getElem?_eq_some_iff.1 (aJ rM Oj)).1 (fun h=>by have:=h.1;omega)).trans (aJ rM Oj)
  have Yu:=(dW.block _ (Array.getElem?_eq_some_iff.1 (aJ rM Ol)).1 (fun h=>by have:=h.2;omega)).trans (aJ rM Ol)
  have Yv:=Lib.hid ((HD6.out.later rM).off dW (fun k hk=>⟨.inr ⟨hk.1,by have:=hk.2;omega⟩,fun hj=>by have:=Yl.out k hj;have:=hk.1;omega⟩))
  have yY:=Lib.hid (((But.of_below (S:=fun j=>w.heap.size≤j) (ag HB.out (ag mX.out rM))).trans (dW.mono fun j hj=>by have:=hj.1;omega)).below (Nat.le_refl _) fun j hj=>hj)
  have rV:row? V9 w.heap.size 0 4=some (ak es ps D):=by rw[bQ Om];exact df (by simp[go_sem])
  clear hb7 hb8 rM dW Oj Yq h116 Ol Yr Yt Ej tV
  go_wp2_with fail
  refine(yB es ps D pk V9 Yv.out.ref.dL.out).mono ?_
  rintro z U ⟨rfl,eH⟩
  dsimp only
  have h5U:=aJ eH Om
  have IG:=aJ eH Yu
  have Nr:=Lib.hid (ag yY.out eH)
  have Yw:=Lib.hid (Yv.out.later eH).ref.dL.out
  clear rV Om Yu eH
  obtain⟨ac,af,ar,al⟩:=aB h5U
  obtain⟨bc,bf,br,bl⟩:=aB IG
  have Yx:row? U W3.heap.size 0 10=some (aC (pG D pk)):=by rw[bQ IG];exact df (by simp[go_sem])
  rcases Yb D pk with⟨e0,e1,e2,-⟩|⟨i,hi,e0,e1,e2,-⟩
  ·rw[e0]
   rw[e2,e1]
   rw[e1]at IG bc br Yx
   clear e0 e1 e2
   go_wp2_with fail
   refine(lN _ U).mono ?_
   rintro z w' ⟨rfl,rfl⟩
   dsimp only
   go_wp2_with fail
   go_ret
   exact⟨rfl,Nr.out⟩
  ·rw[e0]
   rw[e2,e1]
   rw[e1]at IG bc br Yx
   clear e0 e1 e2
   obtain⟨bP,oP,ha,hc,-⟩:=Yw.out.get i hi
   have hki:(i:Int)<(D.au.length:Int):=by omega
   have hbP:bP<U.heap.size:=gm hc
   have hi64:i<4294967296:=by have:=Yw.out.1;simp[lim]at this;omega
   go_wp2_with fail
   refine dM (Below.refl _ U) (by kernel_rfl) (by kernel_rfl) ?_
   repeat (go_big_quiet_step ((go_at_call 9;rename_i xw;exact Calls.gz ((lN _ _).mono (fun _ _ h=>⟨h.1,h.2▸Below.refl _ _⟩)))))
   refine wpQuiet_nil ?_
   intro w2 hb2
   have HB2:=Lib.hid (ag Nr.out hb2)
   go_wp2_with fail
   go_ret
   exact⟨rfl,HB2.out⟩
end Go.Proofs.YtfieenjdcpjmgaaGreatDoor
