/- A part of the proof. -/
import Derived.Test.YtpfifochimkpfaaGreatDoorA22
import Derived.Test.YtpfifochimkpfaaGreatDoorA23
set_option maxRecDepth 100000
set_option maxHeartbeats 4000000
namespace Go.Proofs.YtpfifochimkpfaaGreatDoor
open Go.RowKit Go.WW
structure jM(S0:Nat→Prop)(w0:World)(T5 T9 b n e p:Nat)(k:Nat)(es ps:Sl)(D:Db)(X:List EE)(s:Int)(NL:List (ByteArray×ByteArray))(E:List EE)(P:List ah)(wr:World):Prop where
 box:wr.heap[T9]?=some (.cells (aA es ps D) 30)
 res:wr.heap[T5]?=some (.cells (aA aT aT je) 30)
 prog:jW (fun j=>aW b n e p j∨j=T5∨j=T9∨j<w0.heap.size) b n e p dF s NL E P wr
 ref:gG (fun j=>aW b n e p j∨j=T5∨j=T9∨S0 j) es ps D X wr
 rel:fO D X NL E P
 re:D.aJ=dF
 s0:0≤s
 s1:s≤k
 d0:0≤D.aN
 d1:D.aN≤k
 se:s=D.aN
 so:Sorted dB (fun q:ah=>q.name) D.aF
 n1:X.length≤k
 n2:D.aF.length≤k
 out:Below w0.heap.size w0 wr
 b5:w0.heap.size≤T5
 b9:w0.heap.size≤T9
 n59:T5≠T9
 fr:∀j,aW b n e p j→w0.heap.size≤j∧j≠T5∧j≠T9
section
variable {S0:Nat→Prop} {w0:World} {T5 T9 b n e p:Nat} {k:Nat} {es ps:Sl} {D:Db} {X:List EE} {s:Int} {NL:List (ByteArray×ByteArray)} {E:List EE} {P:List ah} {wr:World}
theorem jM.zu(h:jM S0 w0 T5 T9 b n e p k es ps D X s NL E P wr):T5<wr.heap.size:=(Array.getElem?_eq_some_iff.1 h.res).1
theorem jM.zx(h:jM S0 w0 T5 T9 b n e p k es ps D X s NL E P wr):T9<wr.heap.size:=(Array.getElem?_eq_some_iff.1 h.box).1
theorem jM.xK(h:jM S0 w0 T5 T9 b n e p k es ps D X s NL E P wr)(h0:∀j,S0 j→j<w0.heap.size):∀j,(aW b n e p j∨j=T5∨j=T9∨S0 j)→j<wr.heap.size:=by
 rintro j (hj|rfl|rfl|hj)
 ·exact h.prog.lt j hj
 ·exact h.zu
 ·exact h.zx
 ·have:=h0 j hj;have:=h.out.size;omega
theorem jM.We(h:jM S0 w0 T5 T9 b n e p k es ps D X s NL E P wr):∀j,(aW b n e p j∨j=T5∨j=T9∨j<w0.heap.size)→j<wr.heap.size:=by
 rintro j (hj|rfl|rfl|hj)
 ·exact h.prog.lt j hj
 ·exact h.zu
 ·exact h.zx
 ·have:=h.out.size;omega
theorem jM.next(h:jM S0 w0 T5 T9 b n e p k es ps D X s NL E P wr){es' ps':Sl}{D':Db}{X':List EE}{s':Int}{iL:List (ByteArray×ByteArray)}{E':List EE}{P':List ah}{V V2:World}(hV:Below wr.heap.size wr V)
  (hb:But (aW b n e p) V V2) (hr:gG (fun j=>aW b n e p j∨j=T5∨j=T9∨S0 j) es' ps' D' X' V) (hp:jW (fun j=>aW b n e p j∨j=T5∨j=T9∨j<w0.heap.size) b n e p dF s' iL E' P' V2) (hl:fO D' X' iL E' P') (hre:D'.aJ=D.aJ) (h1:s≤s') (h2:s'≤s+1) (h3:D.aN≤D'.aN) (h4:D'.aN≤D.aN+1) (h5:X'.length≤X.length+1) (h6:D'.aF.length≤D.aF.length+1) (h7:s'=D'.aN) (h8:Sorted dB (fun q:ah=>q.name) D'.aF) :
  jM S0 w0 T5 T9 b n e p (k+1) es' ps' D' X' s' iL E' P' (putRow V2 T9 0 (aA es' ps' D')):=by
 have l9:=h.zx
 have l5:=h.zu
 have sV:=hV.size
 have s2:=hb.size
 have m9:¬aW b n e p T9:=fun hj=>(h.fr _ hj).2.2 rfl
 have m5:¬aW b n e p T5:=fun hj=>(h.fr _ hj).2.1 rfl
 have hbx:V2.heap[T9]?=some (.cells (aA es ps D) 30):=(hb.block _ (by omega) m9).trans (aI hV h.box)
 have hrs:V2.heap[T5]?=some (.cells (aA aT aT je) 30):=(hb.block _ (by omega) m5).trans (aI hV h.res)
 have Ir:But (one T9) V2 (putRow V2 T9 0 (aA es' ps' D')):=(But.refl _ _).put rfl
 have hall:∀j,aW b n e p j→w0.heap.size≤j:=fun j hj=>(h.fr j hj).1
 refine⟨?_,?_,?_,?_,hl,hre.trans h.re,by have:=h.s0;omega,by have:=h.s1;omega,by have:=h.d0;omega,by have:=h.d1;omega,h7,h8,by have:=h.n1;omega,by have:=h.n2;omega,?_,h.b5,h.b9,h.n59,h.fr⟩
 ·have:=jk (o:=0) (cs:=aA es' ps' D') hbx (by simp[fC])
  rwa[kR (by simp[fC])]at this
 ·exact(Ir.block _ (Array.getElem?_eq_some_iff.1 hrs).1 (bU h.n59)).trans hrs
 ·have hpm:=Ir.mono (S':=fun j=>aW b n e p j∨j=T5∨j=T9∨j<w0.heap.size) fun j hj=>.inr (.inr (.inl hj))
  refine⟨?_,fun x hx=>(hp.keep x hx).on hpm,hp.sub⟩
  have hk:∀j,aW b n e p j→(putRow V2 T9 0 (aA es' ps' D')).heap[j]?=V2.heap[j]?:=fun j hj=>gU (h.fr j hj).2.2
  exact⟨(hk b (.inl rfl)).trans hp.db.box,hp.db.nm.at (hk n (.inr (.inl rfl))),hp.db.em.at (hk e (.inr (.inr (.inl rfl)))),hp.db.pm.at (hk p (.inr (.inr (.inr rfl)))),hp.db.ne⟩
 ·exact(hr.on (hb.mono fun j hj=>.inl hj)).on (Ir.mono fun j hj=>.inr (.inr (.inl hj)))
 ·have q1:But (fun j=>w0.heap.size≤j) w0 (putRow V2 T9 0 (aA es' ps' D')):=((But.of_below (ag h.out hV)).trans (hb.mono hall)).trans (Ir.mono fun j (hj:j=T9)=>by rw[hj];exact h.b9)
  exact q1.below (Nat.le_refl _) fun j hj=>hj
end
def Bv(S0:Nat→Prop)(w0:World)(m:Nat)(z:Ending)(w':World):Prop:=
 ∃(b n e p:Nat) (es ps:Sl) (D:Db) (X:List EE),z=.returned (.tuple #[.pointer (some ⟨b,0,none⟩),.agg (aA es ps D),.bool true])∧Below w0.heap.size w0 w'∧
  nR (fun j=>aW b n e p j∨S0 j) b n e p dF es ps D X m w'∧∀j,aW b n e p j→w0.heap.size≤j
theorem jM.last{S0:Nat→Prop}{w0:World}{T9 b n e p:Nat}{k:Nat}{es ps:Sl}{D:Db}{X:List EE}{s:Int}{NL:List (ByteArray×ByteArray)}{E:List EE}{P:List ah}{wr:World}(h:jM S0 w0 w0.heap.size T9 b n e p k es ps D X s NL E P wr) :
  But (one w0.heap.size) wr (putRow wr.drew w0.heap.size 0 (aA es ps D))∧row? (putRow wr.drew w0.heap.size 0 (aA es ps D)) w0.heap.size 0 4=some (aA es ps D):=
 ⟨((But.refl _ wr).drew).put rfl,gJ (fC es ps D) ((Qu _ _ _ _).trans (iC (o:=0) (n:=4) h.res (by simp[fC])))⟩
theorem jM.fin{S0:Nat→Prop}{w0:World}{T9 b n e p:Nat}{k:Nat}{es ps:Sl}{D:Db}{X:List EE}{s:Int}{NL:List (ByteArray×ByteArray)}{E:List EE}{P:List ah}{wr:World}(h:jM S0 w0 w0.heap.size T9 b n e p k es ps D X s NL E P wr)(h0:∀j,S0 j→j<w0.heap.size) :
  Bv S0 w0 k (.returned (.tuple #[.pointer (some ⟨b,0,none⟩),.agg (aA es ps D),.bool true])) (putRow wr.drew w0.heap.size 0 (aA es ps D)):=by
 have Fv:But (one w0.heap.size) wr (putRow wr.drew w0.heap.size 0 (aA es ps D)):=((But.refl _ wr).drew).put rfl
 have hk:∀j,aW b n e p j→(putRow wr.drew w0.heap.size 0 (aA es ps D)).heap[j]?=wr.heap[j]?:=fun j hj=>gU (h.fr j hj).2.1
 have hp:=h.prog
 have hsz:(putRow wr.drew w0.heap.size 0 (aA es ps D)).heap.size=wr.heap.size:=by rw[gV];rfl
 have hse:=h.se
 subst hse
 refine⟨b,n,e,p,es,ps,D,X,rfl,Go.WW.Below.putRow h.out.drew (Nat.le_refl _),⟨⟨NL,E,P,⟨⟨(hk b (.inl rfl)).trans hp.db.box,hp.db.nm.at (hk n (.inr (.inl rfl))),hp.db.em.at (hk e (.inr (.inr (.inl rfl)))),hp.db.pm.at (hk p (.inr (.inr (.inr rfl)))),hp.db.ne⟩,fun x hx=>?_,fun j hj=>.inl hj⟩,h.rel⟩,?_,h.re,fun j hj=>?_,h.so,h.d0,h.d1,h.n1,h.n2⟩,fun j hj=>(h.fr j hj).1⟩
 ·have:=(hp.keep x hx).on (Fv.mono fun j (hj:j=w0.heap.size)=>.inr (.inl hj))
  exact fun y hy=>this y (hy.mono fun j hj=>hj.imp id fun hj=>.inr (.inr (h0 j hj)))
 ·exact(h.ref.on (Fv.mono fun j (hj:j=w0.heap.size)=>.inr (.inl hj))).less fun j hj=>hj.imp id fun hj=>.inr (.inr hj)
 ·rw[hsz]
  rcases hj with hj|hj
  ·exact hp.lt j hj
  ·have:=h0 j hj;have:=h.out.size;omega
theorem ajd(S0:Nat→Prop)(a:Option Addr)(a2:Option Addr)(cap cap2:Nat)(w0:World)(h0:∀j,S0 j→j<w0.heap.size) :
  Calls Tryz.prog 6 #[.slice a 0 cap,.slice a2 0 cap2] w0 (Bv S0 w0 (0+0)):=by
 have H0:=Lib.hid h0
 clear h0
 have hW1:Below w0.heap.size w0 (w0.alloc (.cells (aA aT aT je) 30)):=ay (Below.refl _ _) _
 have lg:(w0.alloc (.cells (aA aT aT je) 30)).heap[w0.heap.size]?=some (.cells (aA aT aT je) 30):=World.alloc_heap_new _ _
 rw[show aA aT aT je=#[.string ⟨#[]⟩,.int .i64 0,.slice none 0 0,.slice none 0 0] from rfl]at hW1 lg
 go_enter Tryz.func6,Tryz.ntmps6
 go_wp2_with fail
 generalize (w0.alloc (.cells #[.string ⟨#[]⟩,.int .i64 0,.slice none 0 0,.slice none 0 0] 30))=W1 at *
 have hl1:w0.heap.size<W1.heap.size:=(Array.getElem?_eq_some_iff.1 lg).1
 refine(Gg dF W1 (by simp[lim,ByteArray.size]) xH).mono ?_
 rintro z w1 ⟨b,n,e,p,rfl,hb1,lH,ub,un,ue,up⟩
 dsimp only
 have rJ:=aI hb1 lg
 have hB1:=ag hW1 hb1
 go_wp2_with fail
 refine(Il dF w1 (by simp[lim,ByteArray.size]) xH).mono ?_
 rintro z w2 ⟨rfl,hb2⟩
 dsimp only
 go_wp2_with fail
 have hV:=ay (ag hB1 hb2) (.cells (aA aT aT (di dF)) 30)
 have rM:=World.alloc_heap_new w2 (.cells (aA aT aT (di dF)) 30)
 have rO:(w2.alloc (.cells (aA aT aT (di dF)) 30)).heap[w0.heap.size]?=some (.cells (aA aT aT je) 30):=(Below.heap_alloc _ _ _ (by have:=hB1.size;have:=hb2.size;have:=hb1.size;omega)).trans (aI hb2 rJ)
 have rP:=(lH.later hb2).later ((Below.refl _ w2).alloc (Nat.le_refl _) (.cells (aA aT aT (di dF)) 30))
 have zy:w0.heap.size<w2.heap.size:=by have:=hb2.size;have:=hb1.size;omega
 have rQ:∀j,aW b n e p j→w0.heap.size≤j∧j≠w0.heap.size∧j≠w2.heap.size:=fun j hj=>by
  have g1:=nN lH
  have g2:j<w1.heap.size:=Classical.byContradiction fun hn=>g1 j (by omega) hj
  have g3:=hb2.size
  have g4:W1.heap.size≤j:=by rcases hj with rfl|rfl|rfl|rfl<;>assumption
  omega
 clear rJ hB1 lH hb2 lg hb1
 generalize (w2.alloc (.cells (aA aT aT (di dF)) 30))=V0 at *
 generalize w2.heap.size=T9 at *
 have hm0:jM S0 w0 w0.heap.size T9 b n e p 0 aT aT (di dF) [] 0 [] [] [] V0:=⟨rM,rO,⟨rP,by simp,fun j hj=>.inl hj⟩,⟨fun y _=>⟨⟨by simp[lim],fun i hi=>by simp at hi⟩,by simp⟩,fun y _=>⟨by simp[di,lim],fun i hi=>by simp[di]at hi⟩,by simp[di]⟩,Ik,rfl,by omega,by omega,by simp[di],by simp[di],by simp[di],List.Pairwise.nil,by simp,by simp[di],hV,Nat.le_refl _,by omega,by omega,rQ⟩
 clear rM rO rP zy rQ hV hW1 hl1 ub un ue up
 refine(iy _ _).mono ?_
 rintro z w' ⟨rfl,rfl⟩
 dsimp only
 go_wp2_with fail
 refine wp_loop_rounds 1 ?_
 rw[rounds_succ]
 go_wp2_with fail
 refine wp_loop_rounds 1 ?_
 rw[rounds_succ]
 go_wp2_with fail
 obtain⟨xc,xf,xr,xl⟩:=ax hm0.box
 have nM:=iC (o:=0) (n:=4) hm0.res (by simp[fC])
 have hl5:=hm0.zu
 have n95:=bU hm0.n59.symm
 have hfin:=Lib.hid (hm0.fin H0.out)
 have zA:=Lib.hid hm0.last.1
 have zB:=Lib.hid hm0.last.2
 have hm':=hm0
 clear hm0
 refine oV (one w0.heap.size) (But.refl _ _) (by kernel_rfl) (by kernel_rfl) ?_
 repeat (first|(refine ai (by rfl) ?_)|(refine bC (by rfl) (by rfl) (fun K hK=>?_);go_big_quiet_op;refine hK _ ?_;clear hK K))
 refine bZ (by rfl) (by rfl) (fun K hK=>?_)
 go_wp2_with fail
 refine hK _ _ (fU zA.out) ?_
 clear hK K
 repeat (first|(refine ai (by rfl) ?_)|(refine bC (by rfl) (by rfl) (fun K hK=>?_);go_big_quiet_op;refine hK _ ?_;clear hK K))
 refine bz ?_
 go_wp2_with fail
 exact bodyPost_ret (Ij (a:=4) (t:=5) (c:=6) (by rfl) Tryz.underlying30 rfl (by kernel_rfl) rfl zB.out) rfl (hfin.out)
theorem aje(S0:Nat→Prop)(a:Option Addr)(bB oB:Nat)(cap cap2:Nat)(X0:List EE)(w0:World)(h0:∀j,S0 j→j<w0.heap.size)(hx:gY S0 w0 (fun y=>qj y (some ⟨bB,oB,none⟩) X0))(h2:X0.length≤6) :
  Calls Tryz.prog 6 #[.slice a 0 cap,.slice (some ⟨bB,oB,none⟩) X0.length cap2] w0 (Bv S0 w0 (0+X0.length)):=by
 have H0:=Lib.hid h0
 have HB:=Lib.hid hx
 have Nq:=Lib.hid (show X0.length≤4294967000 from hx.out.rows.1)
 clear h0 hx
 have hW1:Below w0.heap.size w0 (w0.alloc (.cells (aA aT aT je) 30)):=ay (Below.refl _ _) _
 have lg:(w0.alloc (.cells (aA aT aT je) 30)).heap[w0.heap.size]?=some (.cells (aA aT aT je) 30):=World.alloc_heap_new _ _
 rw[show aA aT aT je=#[.string ⟨#[]⟩,.int .i64 0,.slice none 0 0,.slice none 0 0] from rfl]at hW1 lg
 go_enter Tryz.func6,Tryz.ntmps6
 go_wp2_with fail
 generalize (w0.alloc (.cells #[.string ⟨#[]⟩,.int .i64 0,.slice none 0 0,.slice none 0 0] 30))=W1 at *
 have hl1:w0.heap.size<W1.heap.size:=(Array.getElem?_eq_some_iff.1 lg).1
 refine(Gg dF W1 (by simp[lim,ByteArray.size]) xH).mono ?_
 rintro z w1 ⟨b,n,e,p,rfl,hb1,lH,ub,un,ue,up⟩
 dsimp only
 have rJ:=aI hb1 lg
 have hB1:=ag hW1 hb1
 go_wp2_with fail
 refine(Il dF w1 (by simp[lim,ByteArray.size]) xH).mono ?_
 rintro z w2 ⟨rfl,hb2⟩
 dsimp only
 go_wp2_with fail
 have hV:=ay (ag hB1 hb2) (.cells (aA aT aT (di dF)) 30)
 have rM:=World.alloc_heap_new w2 (.cells (aA aT aT (di dF)) 30)
 have rO:(w2.alloc (.cells (aA aT aT (di dF)) 30)).heap[w0.heap.size]?=some (.cells (aA aT aT je) 30):=(Below.heap_alloc _ _ _ (by have:=hB1.size;have:=hb2.size;have:=hb1.size;omega)).trans (aI hb2 rJ)
 have rP:=(lH.later hb2).later ((Below.refl _ w2).alloc (Nat.le_refl _) (.cells (aA aT aT (di dF)) 30))
 have zy:w0.heap.size<w2.heap.size:=by have:=hb2.size;have:=hb1.size;omega
 have rQ:∀j,aW b n e p j→w0.heap.size≤j∧j≠w0.heap.size∧j≠w2.heap.size:=fun j hj=>by
  have g1:=nN lH
  have g2:j<w1.heap.size:=Classical.byContradiction fun hn=>g1 j (by omega) hj
  have g3:=hb2.size
  have g4:W1.heap.size≤j:=by rcases hj with rfl|rfl|rfl|rfl<;>assumption
  omega
 clear rJ hB1 lH hb2 lg hb1
 generalize (w2.alloc (.cells (aA aT aT (di dF)) 30))=V0 at *
 generalize w2.heap.size=T9 at *
 have hm0:jM S0 w0 w0.heap.size T9 b n e p 0 aT aT (di dF) [] 0 [] [] [] V0:=⟨rM,rO,⟨rP,by simp,fun j hj=>.inl hj⟩,⟨fun y _=>⟨⟨by simp[lim],fun i hi=>by simp at hi⟩,by simp⟩,fun y _=>⟨by simp[di,lim],fun i hi=>by simp[di]at hi⟩,by simp[di]⟩,Ik,rfl,by omega,by omega,by simp[di],by simp[di],by simp[di],List.Pairwise.nil,by simp,by simp[di],hV,Nat.le_refl _,by omega,by omega,rQ⟩
 clear rM rO rP zy rQ hV hW1 hl1 ub un ue up
 refine(iy _ _).mono ?_
 rintro z w' ⟨rfl,rfl⟩
 dsimp only
 go_wp2_with fail
 refine wp_loop_rounds 1 ?_
 rw[rounds_succ]
 go_wp2_with fail
 go_loopw [14] (fun iv wr=>∃k:Nat,k≤X0.length∧iv=.int .i64 k∧∃es ps D X s NL E P,jM S0 w0 w0.heap.size T9 b n e p (0+k) es ps D X s NL E P wr) (fun iv _=>X0.length-(intOf iv).toNat)
 case atStart=>exact⟨0,Nat.zero_le _,rfl,_,_,_,_,_,_,_,_,hm0⟩
 case round=>
  clear hm0
  obtain⟨k,hk,rfl,es,ps,D,X,s,NL,E,P,hm⟩:=hrel
  by_cases hlt:k<X0.length
  ·have hki:(k:Int)<(X0.length:Int):=by omega
   have hll:=Nq.out
   have hrow0:=HB.out.out.rows.at k hlt
   have hrow:row? wr bB (oB+k*17) 17=some (ae X0[k].1 X0[k].2):=(fG (hm.out.block _ (fA hrow0)) _ _).trans hrow0
   have zC:lG (fun j=>aW b n e p j∨j=w0.heap.size∨j=T9∨S0 j) wr (X0[k].1,X0[k].2):=(show gY S0 w0 (fun y=>aS y X0[k].1 X0[k].2) from fun y hy=>(HB.out y hy).each _ (List.getElem_mem hlt)).wide hm.out (by
    rintro j (hj|rfl|rfl|hj)
    ·exact .inr (hm.fr j hj).1
    ·exact .inr hm.b5
    ·exact .inr hm.b9
    ·exact .inl hj)
   generalize X0[k]=x0 at *
   obtain⟨r0,d0⟩:=x0
   dsimp only at zC hrow
   have zD:=Lib.hid zC
   clear zC
   obtain⟨xc,xf,xr,xl⟩:=ax hm.box
   have hbB:bB<wr.heap.size:=fA hrow
   go_wp2_with fail
   apply Ii (M:=fun(T:Nat) (no:Int) (es':Sl) (D':Db) (X':List EE) V=>Below wr.heap.size wr V∧wr.heap.size≤T∧V.heap[T]?=some (.cells (aA es' ps D') 30)∧gG (fun j=>aW b n e p j∨j=w0.heap.size∨j=T9∨S0 j) es' ps D' X' V∧pz D X r0 d0 no D' X')
   case h1=>
    refine yK 9 5 [0,1,2,3,4,9,5,6,7,8,10,11] (Below.refl _ wr) (by kernel_rfl) (by kernel_rfl) (by rfl) ?_ ?_
    ·intro w4 hb4
     repeat (first|(refine ai (by rfl) ?_)|(refine au (by rfl) (by rfl) (fun K hK=>?_);go_big_quiet_op;refine hK _ ?_;clear hK K))
     refine aB (by rfl) (by rfl) (fun K hK=>?_)
     go_wp2_with fail
     refine(Hf (fun j=>aW b n e p j∨j=w0.heap.size∨j=T9∨S0 j) es ps D X r0 d0 w4 (hm.ref.later hb4) (fun j hj=>by have:=hm.xK H0.out j hj;have:=hb4.size;omega) (zD.out.on (But.of_below hb4)) hm.rel.eq hm.rel.rE (by have:=hm.n1;omega) hm.d0 (by have:=hm.d1;omega)).mono ?_
     rintro z w5 ⟨no,es',D',X',rfl,hb5,lY,hst⟩
     have bJ:=ag hb4 hb5
     go_wp2_with fail
     refine hK _ _ (aj bJ) ?_
     clear hK K
     repeat (first|(refine ai (by rfl) ?_)|(refine au (by rfl) (by rfl) (fun K hK=>?_);go_big_quiet_op;refine hK _ ?_;clear hK K))
     refine aB (by rfl) (by rfl) (fun K hK=>?_)
     go_wp2_with fail
     refine hK _ _ (aj (ay bJ _)) ?_
     clear hK K
     repeat (first|(refine ai (by rfl) ?_)|(refine au (by rfl) (by rfl) (fun K hK=>?_);go_big_quiet_op;refine hK _ ?_;clear hK K))
     refine aB (by rfl) (by rfl) (fun K hK=>?_)
     go_wp2_with fail
     refine hK _ _ (aj (ay bJ (.cells (aA es' ps D') 30))) ?_
     clear hK K
     repeat (first|(refine ai (by rfl) ?_)|(refine au (by rfl) (by rfl) (fun K hK=>?_);go_big_quiet_op;refine hK _ ?_;clear hK K))
     refine bz ?_
     have hnew:=World.alloc_heap_new w5 (.cells (aA es' ps D') 30)
     have hge:wr.heap.size≤w5.heap.size:=bJ.size
     have bV:=ay bJ (.cells (aA es' ps D') 30)
     have kz:=lY.later ((Below.refl _ w5).alloc (Nat.le_refl _) (.cells (aA es' ps D') 30))
     generalize (w5.alloc (.cells (aA es' ps D') 30))=V at *
     generalize w5.heap.size=T at *
     skip
     refine⟨by first|rfl|trivial,T,no,es',D',X',rfl,bV,hge,hnew,kz,hst⟩
    ·intro w4 hb4
     change aG _ _ _ _ _ [_,_,_,_,_,_,_,_,_,_,_,_] _ _
     repeat (first|(refine ai (by rfl) ?_)|(refine au (by rfl) (by rfl) (fun K hK=>?_);go_big_quiet_op;refine hK _ ?_;clear hK K))
     refine aB (by rfl) (by rfl) (fun K hK=>?_)
     go_wp2_with fail
     refine hK _ _ (aj (ay hb4 _)) ?_
     clear hK K
     repeat (first|(refine ai (by rfl) ?_)|(refine au (by rfl) (by rfl) (fun K hK=>?_);go_big_quiet_op;refine hK _ ?_;clear hK K))
     refine aB (by rfl) (by rfl) (fun K hK=>?_)
     go_wp2_with fail
     refine(Hf (fun j=>(aW b n e p j∨j=w0.heap.size∨j=T9∨S0 j)∨j=w4.heap.size) es ps D X r0 d0 (w4.alloc (.cells #[.string ⟨#[]⟩,.int .i64 0,.slice none 0 0,.slice none 0 0] 30)) (hm.ref.wide (ay hb4 _) (by rintro j (hj|rfl)<;>first|exact .inl hj|exact .inr hb4.size)) (by rintro j (hj|rfl)<;>first|(have:=hm.xK H0.out j hj;have:=hb4.size;simp;omega)|(simp;done)) (gY.wide (S:=fun j=>aW b n e p j∨j=w0.heap.size∨j=T9∨S0 j) (Φ:=fun y=>aS y r0 d0) zD.out (ay hb4 _) (by rintro j (hj|rfl)<;>first|exact .inl hj|exact .inr hb4.size)) hm.rel.eq hm.rel.rE (by have:=hm.n1;omega) hm.d0 (by have:=hm.d1;omega)).mono ?_
     rintro z w5 ⟨no,es',D',X',rfl,hb5,lY,hst⟩
     have bJ:=ag (ay hb4 (.cells #[.string ⟨#[]⟩,.int .i64 0,.slice none 0 0,.slice none 0 0] 30)) hb5
     have nS:=aI hb5 (World.alloc_heap_new w4 (.cells #[.string ⟨#[]⟩,.int .i64 0,.slice none 0 0,.slice none 0 0] 30))
     have nM:aX w5 w4.heap.size 0 4=true:=iC nS (by simp)
     have bV:Below wr.heap.size wr (putRow w5 w4.heap.size 0 (aA es' ps D')):=Go.WW.Below.putRow bJ hb4.size
     go_wp2_with fail
     refine hK _ _ (aj bJ) ?_
     clear hK K
     repeat (first|(refine ai (by rfl) ?_)|(refine au (by rfl) (by rfl) (fun K hK=>?_);go_big_quiet_op;refine hK _ ?_;clear hK K))
     refine aB (by rfl) (by rfl) (fun K hK=>?_)
     go_wp2_with fail
     refine hK _ _ (aj bV) ?_
     clear hK K
     repeat (first|(refine ai (by rfl) ?_)|(refine au (by rfl) (by rfl) (fun K hK=>?_);go_big_quiet_op;refine hK _ ?_;clear hK K))
     refine bz ?_
     have hge:wr.heap.size≤w4.heap.size:=hb4.size
     have hnew:=jk (o:=0) (cs:=aA es' ps D') nS (by simp[fC])
     rw[kR (by simp[fC])]at hnew
     have kz:=(lY.on ((But.refl _ w5).put (g:=w4.heap.size) (o:=0) (cs:=aA es' ps D') (.inr rfl))).less (S':=fun j=>aW b n e p j∨j=w0.heap.size∨j=T9∨S0 j) (fun j hj=>.inl hj)
     clear nM nS
     generalize (putRow w5 w4.heap.size 0 (aA es' ps D'))=V at *
     generalize w4.heap.size=T at *
     skip
     refine⟨by first|rfl|trivial,T,no,es',D',X',rfl,bV,hge,hnew,kz,hst⟩
   case h2=>
    rintro T no es' D' X' V ⟨bV,Nr,rU,kz,hst⟩
    try clear xc xf xr xl
    have rV:=(aQ bV).2.2 bB
    obtain⟨tc,tf,tr,tl⟩:=ax rU
    try dsimp only
    have hrow2:row? V bB _ _=_:=(rV _ _ hbB).trans hrow
    clear rV
    go_wp2_with fail
    refine(VI (fun j=>aW b n e p j∨j=w0.heap.size∨j=T9∨j<w0.heap.size) b n e p dF s NL E P D D' X X' no V r0 d0 r0 (hm.prog.later bV) Bi hm.re hm.rel hst (zD.out.out.later bV) (fun j hj=>by have:=hm.We j hj;have:=bV.size;omega) (by have:=hm.n1;omega) hm.s0 (by have:=hm.s1;have:=hm.n1;have:=hm.n2;omega)).mono ?_
    rintro z V2 ⟨rfl,hbu,iL,E',P',hp2,zF⟩
    obtain⟨g1,g2,g3,g4,g5,-,-⟩:=Vk hst
    have uj:=Lib.hid (hm.next bV hbu kz hp2 zF g2 (by omega) (by omega) g3 g4 g5 (by rw[g1];omega) (by have:=hm.se;omega) (by rw[g1];exact hm.so))
    have zG:V2.heap[T]?=some (.cells (aA es' ps D') 30):=(hbu.block _ tl (fun hj=>by have:=hm.prog.lt _ hj;omega)).trans rU
    have zH:V2.heap[T9]?=some (.cells (aA es ps D) 30):=(hbu.block _ (by have:=hm.zx;have:=bV.size;omega) (fun hj=>(hm.fr _ hj).2.2 rfl)).trans (aI bV hm.box)
    clear tc tf tr tl hrow2
    obtain⟨tc,tf,tr,tl⟩:=ax zG
    have Ns:aX V2 T9 0 4=true:=iC zH (by simp[fC])
    try dsimp only
    go_wp2_with fail
    refine(iy _ _).mono ?_
    rintro z w' ⟨rfl,rfl⟩
    dsimp only
    go_wp2_with fail
    go_roundw
    case rel=>exact⟨k+1,by omega,by go_num,es',ps,D',X',_,iL,E',P',uj.out⟩
    case measure=>simp[intOf];omega
  ·obtain rfl:k=X0.length:=by omega
   go_wp2_with fail
   obtain⟨xc,xf,xr,xl⟩:=ax hm.box
   have nM:=iC (o:=0) (n:=4) hm.res (by simp[fC])
   have hl5:=hm.zu
   have n95:=bU hm.n59.symm
   have hfin:=Lib.hid (hm.fin H0.out)
   have zA:=Lib.hid hm.last.1
   have zB:=Lib.hid hm.last.2
   have hm':=hm
   clear hm
   refine oV (one w0.heap.size) (But.refl _ _) (by kernel_rfl) (by kernel_rfl) ?_
   repeat (first|(refine ai (by rfl) ?_)|(refine bC (by rfl) (by rfl) (fun K hK=>?_);go_big_quiet_op;refine hK _ ?_;clear hK K))
   refine bZ (by rfl) (by rfl) (fun K hK=>?_)
   go_wp2_with fail
   refine hK _ _ (fU zA.out) ?_
   clear hK K
   repeat (first|(refine ai (by rfl) ?_)|(refine bC (by rfl) (by rfl) (fun K hK=>?_);go_big_quiet_op;refine hK _ ?_;clear hK K))
   refine bz ?_
   go_wp2_with fail
   exact bodyPost_ret (Ij (a:=4) (t:=5) (c:=6) (by rfl) Tryz.underlying30 rfl (by kernel_rfl) rfl zB.out) rfl (hfin.out)
theorem ajf(S0:Nat→Prop)(bA oA:Nat)(a2:Option Addr)(cap cap2:Nat)(PL:List ah)(w0:World)(h0:∀j,S0 j→j<w0.heap.size)(hp:gQ w0 (some ⟨bA,oA,none⟩) PL)(h1:PL.length≤4) :
  Calls Tryz.prog 6 #[.slice (some ⟨bA,oA,none⟩) PL.length cap,.slice a2 0 cap2] w0 (Bv S0 w0 (PL.length+0)):=by
 have H0:=Lib.hid h0
 have HA:=Lib.hid hp
 have Nu:=Lib.hid (show PL.length≤4294967000 from hp.1)
 clear h0 hp
 have hW1:Below w0.heap.size w0 (w0.alloc (.cells (aA aT aT je) 30)):=ay (Below.refl _ _) _
 have lg:(w0.alloc (.cells (aA aT aT je) 30)).heap[w0.heap.size]?=some (.cells (aA aT aT je) 30):=World.alloc_heap_new _ _
 rw[show aA aT aT je=#[.string ⟨#[]⟩,.int .i64 0,.slice none 0 0,.slice none 0 0] from rfl]at hW1 lg
 go_enter Tryz.func6,Tryz.ntmps6
 go_wp2_with fail
 generalize (w0.alloc (.cells #[.string ⟨#[]⟩,.int .i64 0,.slice none 0 0,.slice none 0 0] 30))=W1 at *
 have hl1:w0.heap.size<W1.heap.size:=(Array.getElem?_eq_some_iff.1 lg).1
 refine(Gg dF W1 (by simp[lim,ByteArray.size]) xH).mono ?_
 rintro z w1 ⟨b,n,e,p,rfl,hb1,lH,ub,un,ue,up⟩
 dsimp only
 have rJ:=aI hb1 lg
 have hB1:=ag hW1 hb1
 go_wp2_with fail
 refine(Il dF w1 (by simp[lim,ByteArray.size]) xH).mono ?_
 rintro z w2 ⟨rfl,hb2⟩
 dsimp only
 go_wp2_with fail
 have hV:=ay (ag hB1 hb2) (.cells (aA aT aT (di dF)) 30)
 have rM:=World.alloc_heap_new w2 (.cells (aA aT aT (di dF)) 30)
 have rO:(w2.alloc (.cells (aA aT aT (di dF)) 30)).heap[w0.heap.size]?=some (.cells (aA aT aT je) 30):=(Below.heap_alloc _ _ _ (by have:=hB1.size;have:=hb2.size;have:=hb1.size;omega)).trans (aI hb2 rJ)
 have rP:=(lH.later hb2).later ((Below.refl _ w2).alloc (Nat.le_refl _) (.cells (aA aT aT (di dF)) 30))
 have zy:w0.heap.size<w2.heap.size:=by have:=hb2.size;have:=hb1.size;omega
 have rQ:∀j,aW b n e p j→w0.heap.size≤j∧j≠w0.heap.size∧j≠w2.heap.size:=fun j hj=>by
  have g1:=nN lH
  have g2:j<w1.heap.size:=Classical.byContradiction fun hn=>g1 j (by omega) hj
  have g3:=hb2.size
  have g4:W1.heap.size≤j:=by rcases hj with rfl|rfl|rfl|rfl<;>assumption
  omega
 clear rJ hB1 lH hb2 lg hb1
 generalize (w2.alloc (.cells (aA aT aT (di dF)) 30))=V0 at *
 generalize w2.heap.size=T9 at *
 have hm0:jM S0 w0 w0.heap.size T9 b n e p 0 aT aT (di dF) [] 0 [] [] [] V0:=⟨rM,rO,⟨rP,by simp,fun j hj=>.inl hj⟩,⟨fun y _=>⟨⟨by simp[lim],fun i hi=>by simp at hi⟩,by simp⟩,fun y _=>⟨by simp[di,lim],fun i hi=>by simp[di]at hi⟩,by simp[di]⟩,Ik,rfl,by omega,by omega,by simp[di],by simp[di],by simp[di],List.Pairwise.nil,by simp,by simp[di],hV,Nat.le_refl _,by omega,by omega,rQ⟩
 clear rM rO rP zy rQ hV hW1 hl1 ub un ue up
 refine(iy _ _).mono ?_
 rintro z w' ⟨rfl,rfl⟩
 dsimp only
 go_wp2_with fail
 go_loopw [11] (fun iv wr=>∃k:Nat,k≤PL.length∧iv=.int .i64 k∧∃es ps D X s NL E P,jM S0 w0 w0.heap.size T9 b n e p (k) es ps D X s NL E P wr) (fun iv _=>PL.length-(intOf iv).toNat)
 case atStart=>exact⟨0,Nat.zero_le _,rfl,_,_,_,_,_,_,_,_,hm0⟩
 case round=>
  clear hm0
  obtain⟨k,hk,rfl,es,ps,D,X,s,NL,E,P,hm⟩:=hrel
  by_cases hlt:k<PL.length
  ·have hki:(k:Int)<(PL.length:Int):=by omega
   have hll:=Nu.out
   obtain⟨hrow0,hsz0⟩:=HA.out.at k hlt
   have hrow:row? wr bA (oA+k*10) 10=some (ak PL[k]):=(fG (hm.out.block _ (fA hrow0)) _ _).trans hrow0
   generalize PL[k]=q at *
   have zI:=Lib.hid hsz0
   clear hsz0
   obtain⟨xc,xf,xr,xl⟩:=ax hm.box
   have jY:bA<wr.heap.size:=fA hrow
   go_wp2_with fail
   apply Ii (M:=fun(T:Nat) (no:Int) (ps':Sl) (D':Db) (_:List EE) V=>Below wr.heap.size wr V∧wr.heap.size≤T∧V.heap[T]?=some (.cells (aA es ps' D') 30)∧gG (fun j=>aW b n e p j∨j=w0.heap.size∨j=T9∨S0 j) es ps' D' X V∧ql D q no D')
   case h1=>
    refine yK 9 5 [0,1,2,3,4,9,5,6,7,8,10,11] (Below.refl _ wr) (by kernel_rfl) (by kernel_rfl) (by rfl) ?_ ?_
    ·intro w4 hb4
     repeat (first|(refine ai (by rfl) ?_)|(refine au (by rfl) (by rfl) (fun K hK=>?_);go_big_quiet_op;refine hK _ ?_;clear hK K))
     refine aB (by rfl) (by rfl) (fun K hK=>?_)
     go_wp2_with fail
     refine(He (fun j=>aW b n e p j∨j=w0.heap.size∨j=T9∨S0 j) es ps D X q w4 (hm.ref.later hb4) (fun j hj=>by have:=hm.xK H0.out j hj;have:=hb4.size;omega) zI.out (by have:=hm.n2;omega) hm.d0 (by have:=hm.d1;omega)).mono ?_
     rintro z w5 ⟨no,ps',D',rfl,hb5,lY,hst⟩
     have bJ:=ag hb4 hb5
     go_wp2_with fail
     refine hK _ _ (aj bJ) ?_
     clear hK K
     repeat (first|(refine ai (by rfl) ?_)|(refine au (by rfl) (by rfl) (fun K hK=>?_);go_big_quiet_op;refine hK _ ?_;clear hK K))
     refine aB (by rfl) (by rfl) (fun K hK=>?_)
     go_wp2_with fail
     refine hK _ _ (aj (ay bJ _)) ?_
     clear hK K
     repeat (first|(refine ai (by rfl) ?_)|(refine au (by rfl) (by rfl) (fun K hK=>?_);go_big_quiet_op;refine hK _ ?_;clear hK K))
     refine aB (by rfl) (by rfl) (fun K hK=>?_)
     go_wp2_with fail
     refine hK _ _ (aj (ay bJ (.cells (aA es ps' D') 30))) ?_
     clear hK K
     repeat (first|(refine ai (by rfl) ?_)|(refine au (by rfl) (by rfl) (fun K hK=>?_);go_big_quiet_op;refine hK _ ?_;clear hK K))
     refine bz ?_
     have hnew:=World.alloc_heap_new w5 (.cells (aA es ps' D') 30)
     have hge:wr.heap.size≤w5.heap.size:=bJ.size
     have bV:=ay bJ (.cells (aA es ps' D') 30)
     have kz:=lY.later ((Below.refl _ w5).alloc (Nat.le_refl _) (.cells (aA es ps' D') 30))
     generalize (w5.alloc (.cells (aA es ps' D') 30))=V at *
     generalize w5.heap.size=T at *
     obtain⟨uX,-⟩:∃u:List EE,u=X:=⟨_,rfl⟩
     refine⟨by first|rfl|trivial,T,no,ps',D',uX,rfl,bV,hge,hnew,kz,hst⟩
    ·intro w4 hb4
     change aG _ _ _ _ _ [_,_,_,_,_,_,_,_,_,_,_,_] _ _
     repeat (first|(refine ai (by rfl) ?_)|(refine au (by rfl) (by rfl) (fun K hK=>?_);go_big_quiet_op;refine hK _ ?_;clear hK K))
     refine aB (by rfl) (by rfl) (fun K hK=>?_)
     go_wp2_with fail
     refine hK _ _ (aj (ay hb4 _)) ?_
     clear hK K
     repeat (first|(refine ai (by rfl) ?_)|(refine au (by rfl) (by rfl) (fun K hK=>?_);go_big_quiet_op;refine hK _ ?_;clear hK K))
     refine aB (by rfl) (by rfl) (fun K hK=>?_)
     go_wp2_with fail
     refine(He (fun j=>(aW b n e p j∨j=w0.heap.size∨j=T9∨S0 j)∨j=w4.heap.size) es ps D X q (w4.alloc (.cells #[.string ⟨#[]⟩,.int .i64 0,.slice none 0 0,.slice none 0 0] 30)) (hm.ref.wide (ay hb4 _) (by rintro j (hj|rfl)<;>first|exact .inl hj|exact .inr hb4.size)) (by rintro j (hj|rfl)<;>first|(have:=hm.xK H0.out j hj;have:=hb4.size;simp;omega)|(simp;done)) zI.out (by have:=hm.n2;omega) hm.d0 (by have:=hm.d1;omega)).mono ?_
     rintro z w5 ⟨no,ps',D',rfl,hb5,lY,hst⟩
     have bJ:=ag (ay hb4 (.cells #[.string ⟨#[]⟩,.int .i64 0,.slice none 0 0,.slice none 0 0] 30)) hb5
     have nS:=aI hb5 (World.alloc_heap_new w4 (.cells #[.string ⟨#[]⟩,.int .i64 0,.slice none 0 0,.slice none 0 0] 30))
     have nM:aX w5 w4.heap.size 0 4=true:=iC nS (by simp)
     have bV:Below wr.heap.size wr (putRow w5 w4.heap.size 0 (aA es ps' D')):=Go.WW.Below.putRow bJ hb4.size
     go_wp2_with fail
     refine hK _ _ (aj bJ) ?_
     clear hK K
     repeat (first|(refine ai (by rfl) ?_)|(refine au (by rfl) (by rfl) (fun K hK=>?_);go_big_quiet_op;refine hK _ ?_;clear hK K))
     refine aB (by rfl) (by rfl) (fun K hK=>?_)
     go_wp2_with fail
     refine hK _ _ (aj bV) ?_
     clear hK K
     repeat (first|(refine ai (by rfl) ?_)|(refine au (by rfl) (by rfl) (fun K hK=>?_);go_big_quiet_op;refine hK _ ?_;clear hK K))
     refine bz ?_
     have hge:wr.heap.size≤w4.heap.size:=hb4.size
     have hnew:=jk (o:=0) (cs:=aA es ps' D') nS (by simp[fC])
     rw[kR (by simp[fC])]at hnew
     have kz:=(lY.on ((But.refl _ w5).put (g:=w4.heap.size) (o:=0) (cs:=aA es ps' D') (.inr rfl))).less (S':=fun j=>aW b n e p j∨j=w0.heap.size∨j=T9∨S0 j) (fun j hj=>.inl hj)
     clear nM nS
     generalize (putRow w5 w4.heap.size 0 (aA es ps' D'))=V at *
     generalize w4.heap.size=T at *
     obtain⟨uX,-⟩:∃u:List EE,u=X:=⟨_,rfl⟩
     refine⟨by first|rfl|trivial,T,no,ps',D',uX,rfl,bV,hge,hnew,kz,hst⟩
   case h2=>
    rintro T no ps' D' uu V ⟨bV,Nr,rU,kz,hst⟩
    try clear xc xf xr xl
    have rV:=(aQ bV).2.2 bA
    obtain⟨tc,tf,tr,tl⟩:=ax rU
    try dsimp only
    have hrow2:row? V bA _ _=_:=(rV _ _ jY).trans hrow
    clear rV
    go_wp2_with fail
    refine(VJ (fun j=>aW b n e p j∨j=w0.heap.size∨j=T9∨j<w0.heap.size) b n e p dF s NL E P D D' X no V q (hm.prog.later bV) Bi hm.rel hst zI.out (by have h1:=hm.rel.dJ.perm.length_eq;have h2:=hm.n2;omega) hm.s0 (by have:=hm.s1;have:=hm.n1;have:=hm.n2;omega)).mono ?_
    rintro z V2 ⟨rfl,hbu,iL,E',P',hp2,zF⟩
    obtain⟨g1,g2,g3,g4,g5⟩:=Mc hst
    have uj:=Lib.hid (hm.next bV hbu kz hp2 zF g2 (by omega) (by omega) g3 g4 (by omega) g5 (by have:=hm.se;omega) (Vq hst hm.rel.dJ.nodup hm.so))
    have zG:V2.heap[T]?=some (.cells (aA es ps' D') 30):=(hbu.block _ tl (fun hj=>by have:=hm.prog.lt _ hj;omega)).trans rU
    have zH:V2.heap[T9]?=some (.cells (aA es ps D) 30):=(hbu.block _ (by have:=hm.zx;have:=bV.size;omega) (fun hj=>(hm.fr _ hj).2.2 rfl)).trans (aI bV hm.box)
    clear tc tf tr tl hrow2
    obtain⟨tc,tf,tr,tl⟩:=ax zG
    have Ns:aX V2 T9 0 4=true:=iC zH (by simp[fC])
    try dsimp only
    go_wp2_with fail
    refine(iy _ _).mono ?_
    rintro z w' ⟨rfl,rfl⟩
    dsimp only
    go_wp2_with fail
    go_roundw
    case rel=>exact⟨k+1,by omega,by go_num,es,ps',D',X,_,iL,E',P',uj.out⟩
    case measure=>simp[intOf];omega
  ·obtain rfl:k=PL.length:=by omega
   go_wp2_with fail
   refine wp_loop_rounds 1 ?_
   rw[rounds_succ]
   go_wp2_with fail
   obtain⟨xc,xf,xr,xl⟩:=ax hm.box
   have nM:=iC (o:=0) (n:=4) hm.res (by simp[fC])
   have hl5:=hm.zu
   have n95:=bU hm.n59.symm
   have hfin:=Lib.hid (hm.fin H0.out)
   have zA:=Lib.hid hm.last.1
   have zB:=Lib.hid hm.last.2
   have hm':=hm
   clear hm
   refine oV (one w0.heap.size) (But.refl _ _) (by kernel_rfl) (by kernel_rfl) ?_
   repeat (first|(refine ai (by rfl) ?_)|(refine bC (by rfl) (by rfl) (fun K hK=>?_);go_big_quiet_op;refine hK _ ?_;clear hK K))
   refine bZ (by rfl) (by rfl) (fun K hK=>?_)
   go_wp2_with fail
   refine hK _ _ (fU zA.out) ?_
   clear hK K
   repeat (first|(refine ai (by rfl) ?_)|(refine bC (by rfl) (by rfl) (fun K hK=>?_);go_big_quiet_op;refine hK _ ?_;clear hK K))
   refine bz ?_
   go_wp2_with fail
   exact bodyPost_ret (Ij (a:=4) (t:=5) (c:=6) (by rfl) Tryz.underlying30 rfl (by kernel_rfl) rfl zB.out) rfl (hfin.out)
theorem ajg(S0:Nat→Prop)(bA oA:Nat)(bB oB:Nat)(cap cap2:Nat)(PL:List ah)(X0:List EE)(w0:World)(h0:∀j,S0 j→j<w0.heap.size)(hp:gQ w0 (some ⟨bA,oA,none⟩) PL)(hx:gY S0 w0 (fun y=>qj y (some ⟨bB,oB,none⟩) X0))(h1:PL.length≤4)(h2:X0.length≤6) :
  Calls Tryz.prog 6 #[.slice (some ⟨bA,oA,none⟩) PL.length cap,.slice (some ⟨bB,oB,none⟩) X0.length cap2] w0 (Bv S0 w0 (PL.length+X0.length)):=by
 have H0:=Lib.hid h0
 have HA:=Lib.hid hp
 have Nu:=Lib.hid (show PL.length≤4294967000 from hp.1)
 have HB:=Lib.hid hx
 have Nq:=Lib.hid (show X0.length≤4294967000 from hx.out.rows.1)
 clear h0 hp hx
 have hW1:Below w0.heap.size w0 (w0.alloc (.cells (aA aT aT je) 30)):=ay (Below.refl _ _) _
 have lg:(w0.alloc (.cells (aA aT aT je) 30)).heap[w0.heap.size]?=some (.cells (aA aT aT je) 30):=World.alloc_heap_new _ _
 rw[show aA aT aT je=#[.string ⟨#[]⟩,.int .i64 0,.slice none 0 0,.slice none 0 0] from rfl]at hW1 lg
 go_enter Tryz.func6,Tryz.ntmps6
 go_wp2_with fail
 generalize (w0.alloc (.cells #[.string ⟨#[]⟩,.int .i64 0,.slice none 0 0,.slice none 0 0] 30))=W1 at *
 have hl1:w0.heap.size<W1.heap.size:=(Array.getElem?_eq_some_iff.1 lg).1
 refine(Gg dF W1 (by simp[lim,ByteArray.size]) xH).mono ?_
 rintro z w1 ⟨b,n,e,p,rfl,hb1,lH,ub,un,ue,up⟩
 dsimp only
 have rJ:=aI hb1 lg
 have hB1:=ag hW1 hb1
 go_wp2_with fail
 refine(Il dF w1 (by simp[lim,ByteArray.size]) xH).mono ?_
 rintro z w2 ⟨rfl,hb2⟩
 dsimp only
 go_wp2_with fail
 have hV:=ay (ag hB1 hb2) (.cells (aA aT aT (di dF)) 30)
 have rM:=World.alloc_heap_new w2 (.cells (aA aT aT (di dF)) 30)
 have rO:(w2.alloc (.cells (aA aT aT (di dF)) 30)).heap[w0.heap.size]?=some (.cells (aA aT aT je) 30):=(Below.heap_alloc _ _ _ (by have:=hB1.size;have:=hb2.size;have:=hb1.size;omega)).trans (aI hb2 rJ)
 have rP:=(lH.later hb2).later ((Below.refl _ w2).alloc (Nat.le_refl _) (.cells (aA aT aT (di dF)) 30))
 have zy:w0.heap.size<w2.heap.size:=by have:=hb2.size;have:=hb1.size;omega
 have rQ:∀j,aW b n e p j→w0.heap.size≤j∧j≠w0.heap.size∧j≠w2.heap.size:=fun j hj=>by
  have g1:=nN lH
  have g2:j<w1.heap.size:=Classical.byContradiction fun hn=>g1 j (by omega) hj
  have g3:=hb2.size
  have g4:W1.heap.size≤j:=by rcases hj with rfl|rfl|rfl|rfl<;>assumption
  omega
 clear rJ hB1 lH hb2 lg hb1
 generalize (w2.alloc (.cells (aA aT aT (di dF)) 30))=V0 at *
 generalize w2.heap.size=T9 at *
 have hm0:jM S0 w0 w0.heap.size T9 b n e p 0 aT aT (di dF) [] 0 [] [] [] V0:=⟨rM,rO,⟨rP,by simp,fun j hj=>.inl hj⟩,⟨fun y _=>⟨⟨by simp[lim],fun i hi=>by simp at hi⟩,by simp⟩,fun y _=>⟨by simp[di,lim],fun i hi=>by simp[di]at hi⟩,by simp[di]⟩,Ik,rfl,by omega,by omega,by simp[di],by simp[di],by simp[di],List.Pairwise.nil,by simp,by simp[di],hV,Nat.le_refl _,by omega,by omega,rQ⟩
 clear rM rO rP zy rQ hV hW1 hl1 ub un ue up
 refine(iy _ _).mono ?_
 rintro z w' ⟨rfl,rfl⟩
 dsimp only
 go_wp2_with fail
 go_loopw [11] (fun iv wr=>∃k:Nat,k≤PL.length∧iv=.int .i64 k∧∃es ps D X s NL E P,jM S0 w0 w0.heap.size T9 b n e p (k) es ps D X s NL E P wr) (fun iv _=>PL.length-(intOf iv).toNat)
 case atStart=>exact⟨0,Nat.zero_le _,rfl,_,_,_,_,_,_,_,_,hm0⟩
 case round=>
  clear hm0
  obtain⟨k,hk,rfl,es,ps,D,X,s,NL,E,P,hm⟩:=hrel
  by_cases hlt:k<PL.length
  ·have hki:(k:Int)<(PL.length:Int):=by omega
   have hll:=Nu.out
   obtain⟨hrow0,hsz0⟩:=HA.out.at k hlt
   have hrow:row? wr bA (oA+k*10) 10=some (ak PL[k]):=(fG (hm.out.block _ (fA hrow0)) _ _).trans hrow0
   generalize PL[k]=q at *
   have zI:=Lib.hid hsz0
   clear hsz0
   obtain⟨xc,xf,xr,xl⟩:=ax hm.box
   have jY:bA<wr.heap.size:=fA hrow
   go_wp2_with fail
   apply Ii (M:=fun(T:Nat) (no:Int) (ps':Sl) (D':Db) (_:List EE) V=>Below wr.heap.size wr V∧wr.heap.size≤T∧V.heap[T]?=some (.cells (aA es ps' D') 30)∧gG (fun j=>aW b n e p j∨j=w0.heap.size∨j=T9∨S0 j) es ps' D' X V∧ql D q no D')
   case h1=>
    refine yK 9 5 [0,1,2,3,4,9,5,6,7,8,10,11] (Below.refl _ wr) (by kernel_rfl) (by kernel_rfl) (by rfl) ?_ ?_
    ·intro w4 hb4
     repeat (first|(refine ai (by rfl) ?_)|(refine au (by rfl) (by rfl) (fun K hK=>?_);go_big_quiet_op;refine hK _ ?_;clear hK K))
     refine aB (by rfl) (by rfl) (fun K hK=>?_)
     go_wp2_with fail
     refine(He (fun j=>aW b n e p j∨j=w0.heap.size∨j=T9∨S0 j) es ps D X q w4 (hm.ref.later hb4) (fun j hj=>by have:=hm.xK H0.out j hj;have:=hb4.size;omega) zI.out (by have:=hm.n2;omega) hm.d0 (by have:=hm.d1;omega)).mono ?_
     rintro z w5 ⟨no,ps',D',rfl,hb5,lY,hst⟩
     have bJ:=ag hb4 hb5
     go_wp2_with fail
     refine hK _ _ (aj bJ) ?_
     clear hK K
     repeat (first|(refine ai (by rfl) ?_)|(refine au (by rfl) (by rfl) (fun K hK=>?_);go_big_quiet_op;refine hK _ ?_;clear hK K))
     refine aB (by rfl) (by rfl) (fun K hK=>?_)
     go_wp2_with fail
     refine hK _ _ (aj (ay bJ _)) ?_
     clear hK K
     repeat (first|(refine ai (by rfl) ?_)|(refine au (by rfl) (by rfl) (fun K hK=>?_);go_big_quiet_op;refine hK _ ?_;clear hK K))
     refine aB (by rfl) (by rfl) (fun K hK=>?_)
     go_wp2_with fail
     refine hK _ _ (aj (ay bJ (.cells (aA es ps' D') 30))) ?_
     clear hK K
     repeat (first|(refine ai (by rfl) ?_)|(refine au (by rfl) (by rfl) (fun K hK=>?_);go_big_quiet_op;refine hK _ ?_;clear hK K))
     refine bz ?_
     have hnew:=World.alloc_heap_new w5 (.cells (aA es ps' D') 30)
     have hge:wr.heap.size≤w5.heap.size:=bJ.size
     have bV:=ay bJ (.cells (aA es ps' D') 30)
     have kz:=lY.later ((Below.refl _ w5).alloc (Nat.le_refl _) (.cells (aA es ps' D') 30))
     generalize (w5.alloc (.cells (aA es ps' D') 30))=V at *
     generalize w5.heap.size=T at *
     obtain⟨uX,-⟩:∃u:List EE,u=X:=⟨_,rfl⟩
     refine⟨by first|rfl|trivial,T,no,ps',D',uX,rfl,bV,hge,hnew,kz,hst⟩
    ·intro w4 hb4
     change aG _ _ _ _ _ [_,_,_,_,_,_,_,_,_,_,_,_] _ _
     repeat (first|(refine ai (by rfl) ?_)|(refine au (by rfl) (by rfl) (fun K hK=>?_);go_big_quiet_op;refine hK _ ?_;clear hK K))
     refine aB (by rfl) (by rfl) (fun K hK=>?_)
     go_wp2_with fail
     refine hK _ _ (aj (ay hb4 _)) ?_
     clear hK K
     repeat (first|(refine ai (by rfl) ?_)|(refine au (by rfl) (by rfl) (fun K hK=>?_);go_big_quiet_op;refine hK _ ?_;clear hK K))
     refine aB (by rfl) (by rfl) (fun K hK=>?_)
     go_wp2_with fail
     refine(He (fun j=>(aW b n e p j∨j=w0.heap.size∨j=T9∨S0 j)∨j=w4.heap.size) es ps D X q (w4.alloc (.cells #[.string ⟨#[]⟩,.int .i64 0,.slice none 0 0,.slice none 0 0] 30)) (hm.ref.wide (ay hb4 _) (by rintro j (hj|rfl)<;>first|exact .inl hj|exact .inr hb4.size)) (by rintro j (hj|rfl)<;>first|(have:=hm.xK H0.out j hj;have:=hb4.size;simp;omega)|(simp;done)) zI.out (by have:=hm.n2;omega) hm.d0 (by have:=hm.d1;omega)).mono ?_
     rintro z w5 ⟨no,ps',D',rfl,hb5,lY,hst⟩
     have bJ:=ag (ay hb4 (.cells #[.string ⟨#[]⟩,.int .i64 0,.slice none 0 0,.slice none 0 0] 30)) hb5
     have nS:=aI hb5 (World.alloc_heap_new w4 (.cells #[.string ⟨#[]⟩,.int .i64 0,.slice none 0 0,.slice none 0 0] 30))
     have nM:aX w5 w4.heap.size 0 4=true:=iC nS (by simp)
     have bV:Below wr.heap.size wr (putRow w5 w4.heap.size 0 (aA es ps' D')):=Go.WW.Below.putRow bJ hb4.size
     go_wp2_with fail
     refine hK _ _ (aj bJ) ?_
     clear hK K
     repeat (first|(refine ai (by rfl) ?_)|(refine au (by rfl) (by rfl) (fun K hK=>?_);go_big_quiet_op;refine hK _ ?_;clear hK K))
     refine aB (by rfl) (by rfl) (fun K hK=>?_)
     go_wp2_with fail
     refine hK _ _ (aj bV) ?_
     clear hK K
     repeat (first|(refine ai (by rfl) ?_)|(refine au (by rfl) (by rfl) (fun K hK=>?_);go_big_quiet_op;refine hK _ ?_;clear hK K))
     refine bz ?_
     have hge:wr.heap.size≤w4.heap.size:=hb4.size
     have hnew:=jk (o:=0) (cs:=aA es ps' D') nS (by simp[fC])
     rw[kR (by simp[fC])]at hnew
     have kz:=(lY.on ((But.refl _ w5).put (g:=w4.heap.size) (o:=0) (cs:=aA es ps' D') (.inr rfl))).less (S':=fun j=>aW b n e p j∨j=w0.heap.size∨j=T9∨S0 j) (fun j hj=>.inl hj)
     clear nM nS
     generalize (putRow w5 w4.heap.size 0 (aA es ps' D'))=V at *
     generalize w4.heap.size=T at *
     obtain⟨uX,-⟩:∃u:List EE,u=X:=⟨_,rfl⟩
     refine⟨by first|rfl|trivial,T,no,ps',D',uX,rfl,bV,hge,hnew,kz,hst⟩
   case h2=>
    rintro T no ps' D' uu V ⟨bV,Nr,rU,kz,hst⟩
    try clear xc xf xr xl
    have rV:=(aQ bV).2.2 bA
    obtain⟨tc,tf,tr,tl⟩:=ax rU
    try dsimp only
    have hrow2:row? V bA _ _=_:=(rV _ _ jY).trans hrow
    clear rV
    go_wp2_with fail
    refine(VJ (fun j=>aW b n e p j∨j=w0.heap.size∨j=T9∨j<w0.heap.size) b n e p dF s NL E P D D' X no V q (hm.prog.later bV) Bi hm.rel hst zI.out (by have h1:=hm.rel.dJ.perm.length_eq;have h2:=hm.n2;omega) hm.s0 (by have:=hm.s1;have:=hm.n1;have:=hm.n2;omega)).mono ?_
    rintro z V2 ⟨rfl,hbu,iL,E',P',hp2,zF⟩
    obtain⟨g1,g2,g3,g4,g5⟩:=Mc hst
    have uj:=Lib.hid (hm.next bV hbu kz hp2 zF g2 (by omega) (by omega) g3 g4 (by omega) g5 (by have:=hm.se;omega) (Vq hst hm.rel.dJ.nodup hm.so))
    have zG:V2.heap[T]?=some (.cells (aA es ps' D') 30):=(hbu.block _ tl (fun hj=>by have:=hm.prog.lt _ hj;omega)).trans rU
    have zH:V2.heap[T9]?=some (.cells (aA es ps D) 30):=(hbu.block _ (by have:=hm.zx;have:=bV.size;omega) (fun hj=>(hm.fr _ hj).2.2 rfl)).trans (aI bV hm.box)
    clear tc tf tr tl hrow2
    obtain⟨tc,tf,tr,tl⟩:=ax zG
    have Ns:aX V2 T9 0 4=true:=iC zH (by simp[fC])
    try dsimp only
    go_wp2_with fail
    refine(iy _ _).mono ?_
    rintro z w' ⟨rfl,rfl⟩
    dsimp only
    go_wp2_with fail
    go_roundw
    case rel=>exact⟨k+1,by omega,by go_num,es,ps',D',X,_,iL,E',P',uj.out⟩
    case measure=>simp[intOf];omega
  ·obtain rfl:k=PL.length:=by omega
   go_wp2_with fail
   go_loopw [14] (fun iv wr=>∃k:Nat,k≤X0.length∧iv=.int .i64 k∧∃es ps D X s NL E P,jM S0 w0 w0.heap.size T9 b n e p (PL.length+k) es ps D X s NL E P wr) (fun iv _=>X0.length-(intOf iv).toNat)
   case atStart=>exact⟨0,Nat.zero_le _,rfl,_,_,_,_,_,_,_,_,hm⟩
   case round=>
    clear hm
    obtain⟨k,hk,rfl,es,ps,D,X,s,NL,E,P,hm⟩:=hrel
    by_cases hlt:k<X0.length
    ·have hki:(k:Int)<(X0.length:Int):=by omega
     have hll:=Nq.out
     have hrow0:=HB.out.out.rows.at k hlt
     have hrow:row? wr bB (oB+k*17) 17=some (ae X0[k].1 X0[k].2):=(fG (hm.out.block _ (fA hrow0)) _ _).trans hrow0
     have zC:lG (fun j=>aW b n e p j∨j=w0.heap.size∨j=T9∨S0 j) wr (X0[k].1,X0[k].2):=(show gY S0 w0 (fun y=>aS y X0[k].1 X0[k].2) from fun y hy=>(HB.out y hy).each _ (List.getElem_mem hlt)).wide hm.out (by
      rintro j (hj|rfl|rfl|hj)
      ·exact .inr (hm.fr j hj).1
      ·exact .inr hm.b5
      ·exact .inr hm.b9
      ·exact .inl hj)
     generalize X0[k]=x0 at *
     obtain⟨r0,d0⟩:=x0
     dsimp only at zC hrow
     have zD:=Lib.hid zC
     clear zC
     obtain⟨xc,xf,xr,xl⟩:=ax hm.box
     have hbB:bB<wr.heap.size:=fA hrow
     go_wp2_with fail
     apply Ii (M:=fun(T:Nat) (no:Int) (es':Sl) (D':Db) (X':List EE) V=>Below wr.heap.size wr V∧wr.heap.size≤T∧V.heap[T]?=some (.cells (aA es' ps D') 30)∧gG (fun j=>aW b n e p j∨j=w0.heap.size∨j=T9∨S0 j) es' ps D' X' V∧pz D X r0 d0 no D' X')
     case h1=>
      refine yK 9 5 [0,1,2,3,4,9,5,6,7,8,10,11] (Below.refl _ wr) (by kernel_rfl) (by kernel_rfl) (by rfl) ?_ ?_
      ·intro w4 hb4
       repeat (first|(refine ai (by rfl) ?_)|(refine au (by rfl) (by rfl) (fun K hK=>?_);go_big_quiet_op;refine hK _ ?_;clear hK K))
       refine aB (by rfl) (by rfl) (fun K hK=>?_)
       go_wp2_with fail
       refine(Hf (fun j=>aW b n e p j∨j=w0.heap.size∨j=T9∨S0 j) es ps D X r0 d0 w4 (hm.ref.later hb4) (fun j hj=>by have:=hm.xK H0.out j hj;have:=hb4.size;omega) (zD.out.on (But.of_below hb4)) hm.rel.eq hm.rel.rE (by have:=hm.n1;omega) hm.d0 (by have:=hm.d1;omega)).mono ?_
       rintro z w5 ⟨no,es',D',X',rfl,hb5,lY,hst⟩
       have bJ:=ag hb4 hb5
       go_wp2_with fail
       refine hK _ _ (aj bJ) ?_
       clear hK K
       repeat (first|(refine ai (by rfl) ?_)|(refine au (by rfl) (by rfl) (fun K hK=>?_);go_big_quiet_op;refine hK _ ?_;clear hK K))
       refine aB (by rfl) (by rfl) (fun K hK=>?_)
       go_wp2_with fail
       refine hK _ _ (aj (ay bJ _)) ?_
       clear hK K
       repeat (first|(refine ai (by rfl) ?_)|(refine au (by rfl) (by rfl) (fun K hK=>?_);go_big_quiet_op;refine hK _ ?_;clear hK K))
       refine aB (by rfl) (by rfl) (fun K hK=>?_)
       go_wp2_with fail
       refine hK _ _ (aj (ay bJ (.cells (aA es' ps D') 30))) ?_
       clear hK K
       repeat (first|(refine ai (by rfl) ?_)|(refine au (by rfl) (by rfl) (fun K hK=>?_);go_big_quiet_op;refine hK _ ?_;clear hK K))
       refine bz ?_
       have hnew:=World.alloc_heap_new w5 (.cells (aA es' ps D') 30)
       have hge:wr.heap.size≤w5.heap.size:=bJ.size
       have bV:=ay bJ (.cells (aA es' ps D') 30)
       have kz:=lY.later ((Below.refl _ w5).alloc (Nat.le_refl _) (.cells (aA es' ps D') 30))
       generalize (w5.alloc (.cells (aA es' ps D') 30))=V at *
       generalize w5.heap.size=T at *
       skip
       refine⟨by first|rfl|trivial,T,no,es',D',X',rfl,bV,hge,hnew,kz,hst⟩
      ·intro w4 hb4
       change aG _ _ _ _ _ [_,_,_,_,_,_,_,_,_,_,_,_] _ _
       repeat (first|(refine ai (by rfl) ?_)|(refine au (by rfl) (by rfl) (fun K hK=>?_);go_big_quiet_op;refine hK _ ?_;clear hK K))
       refine aB (by rfl) (by rfl) (fun K hK=>?_)
       go_wp2_with fail
       refine hK _ _ (aj (ay hb4 _)) ?_
       clear hK K
       repeat (first|(refine ai (by rfl) ?_)|(refine au (by rfl) (by rfl) (fun K hK=>?_);go_big_quiet_op;refine hK _ ?_;clear hK K))
       refine aB (by rfl) (by rfl) (fun K hK=>?_)
       go_wp2_with fail
       refine(Hf (fun j=>(aW b n e p j∨j=w0.heap.size∨j=T9∨S0 j)∨j=w4.heap.size) es ps D X r0 d0 (w4.alloc (.cells #[.string ⟨#[]⟩,.int .i64 0,.slice none 0 0,.slice none 0 0] 30)) (hm.ref.wide (ay hb4 _) (by rintro j (hj|rfl)<;>first|exact .inl hj|exact .inr hb4.size)) (by rintro j (hj|rfl)<;>first|(have:=hm.xK H0.out j hj;have:=hb4.size;simp;omega)|(simp;done)) (gY.wide (S:=fun j=>aW b n e p j∨j=w0.heap.size∨j=T9∨S0 j) (Φ:=fun y=>aS y r0 d0) zD.out (ay hb4 _) (by rintro j (hj|rfl)<;>first|exact .inl hj|exact .inr hb4.size)) hm.rel.eq hm.rel.rE (by have:=hm.n1;omega) hm.d0 (by have:=hm.d1;omega)).mono ?_
       rintro z w5 ⟨no,es',D',X',rfl,hb5,lY,hst⟩
       have bJ:=ag (ay hb4 (.cells #[.string ⟨#[]⟩,.int .i64 0,.slice none 0 0,.slice none 0 0] 30)) hb5
       have nS:=aI hb5 (World.alloc_heap_new w4 (.cells #[.string ⟨#[]⟩,.int .i64 0,.slice none 0 0,.slice none 0 0] 30))
       have nM:aX w5 w4.heap.size 0 4=true:=iC nS (by simp)
       have bV:Below wr.heap.size wr (putRow w5 w4.heap.size 0 (aA es' ps D')):=Go.WW.Below.putRow bJ hb4.size
       go_wp2_with fail
       refine hK _ _ (aj bJ) ?_
       clear hK K
       repeat (first|(refine ai (by rfl) ?_)|(refine au (by rfl) (by rfl) (fun K hK=>?_);go_big_quiet_op;refine hK _ ?_;clear hK K))
       refine aB (by rfl) (by rfl) (fun K hK=>?_)
       go_wp2_with fail
       refine hK _ _ (aj bV) ?_
       clear hK K
       repeat (first|(refine ai (by rfl) ?_)|(refine au (by rfl) (by rfl) (fun K hK=>?_);go_big_quiet_op;refine hK _ ?_;clear hK K))
       refine bz ?_
       have hge:wr.heap.size≤w4.heap.size:=hb4.size
       have hnew:=jk (o:=0) (cs:=aA es' ps D') nS (by simp[fC])
       rw[kR (by simp[fC])]at hnew
       have kz:=(lY.on ((But.refl _ w5).put (g:=w4.heap.size) (o:=0) (cs:=aA es' ps D') (.inr rfl))).less (S':=fun j=>aW b n e p j∨j=w0.heap.size∨j=T9∨S0 j) (fun j hj=>.inl hj)
       clear nM nS
       generalize (putRow w5 w4.heap.size 0 (aA es' ps D'))=V at *
       generalize w4.heap.size=T at *
       skip
       refine⟨by first|rfl|trivial,T,no,es',D',X',rfl,bV,hge,hnew,kz,hst⟩
     case h2=>
      rintro T no es' D' X' V ⟨bV,Nr,rU,kz,hst⟩
      try clear xc xf xr xl
      have rV:=(aQ bV).2.2 bB
      obtain⟨tc,tf,tr,tl⟩:=ax rU
      try dsimp only
      have hrow2:row? V bB _ _=_:=(rV _ _ hbB).trans hrow
      clear rV
      go_wp2_with fail
      refine(VI (fun j=>aW b n e p j∨j=w0.heap.size∨j=T9∨j<w0.heap.size) b n e p dF s NL E P D D' X X' no V r0 d0 r0 (hm.prog.later bV) Bi hm.re hm.rel hst (zD.out.out.later bV) (fun j hj=>by have:=hm.We j hj;have:=bV.size;omega) (by have:=hm.n1;omega) hm.s0 (by have:=hm.s1;have:=hm.n1;have:=hm.n2;omega)).mono ?_
      rintro z V2 ⟨rfl,hbu,iL,E',P',hp2,zF⟩
      obtain⟨g1,g2,g3,g4,g5,-,-⟩:=Vk hst
      have uj:=Lib.hid (hm.next bV hbu kz hp2 zF g2 (by omega) (by omega) g3 g4 g5 (by rw[g1];omega) (by have:=hm.se;omega) (by rw[g1];exact hm.so))
      have zG:V2.heap[T]?=some (.cells (aA es' ps D') 30):=(hbu.block _ tl (fun hj=>by have:=hm.prog.lt _ hj;omega)).trans rU
      have zH:V2.heap[T9]?=some (.cells (aA es ps D) 30):=(hbu.block _ (by have:=hm.zx;have:=bV.size;omega) (fun hj=>(hm.fr _ hj).2.2 rfl)).trans (aI bV hm.box)
      clear tc tf tr tl hrow2
      obtain⟨tc,tf,tr,tl⟩:=ax zG
      have Ns:aX V2 T9 0 4=true:=iC zH (by simp[fC])
      try dsimp only
      go_wp2_with fail
      refine(iy _ _).mono ?_
      rintro z w' ⟨rfl,rfl⟩
      dsimp only
      go_wp2_with fail
      go_roundw
      case rel=>exact⟨k+1,by omega,by go_num,es',ps,D',X',_,iL,E',P',uj.out⟩
      case measure=>simp[intOf];omega
    ·obtain rfl:k=X0.length:=by omega
     go_wp2_with fail
     obtain⟨xc,xf,xr,xl⟩:=ax hm.box
     have nM:=iC (o:=0) (n:=4) hm.res (by simp[fC])
     have hl5:=hm.zu
     have n95:=bU hm.n59.symm
     have hfin:=Lib.hid (hm.fin H0.out)
     have zA:=Lib.hid hm.last.1
     have zB:=Lib.hid hm.last.2
     have hm':=hm
     clear hm
     refine oV (one w0.heap.size) (But.refl _ _) (by kernel_rfl) (by kernel_rfl) ?_
     repeat (first|(refine ai (by rfl) ?_)|(refine bC (by rfl) (by rfl) (fun K hK=>?_);go_big_quiet_op;refine hK _ ?_;clear hK K))
     refine bZ (by rfl) (by rfl) (fun K hK=>?_)
     go_wp2_with fail
     refine hK _ _ (fU zA.out) ?_
     clear hK K
     repeat (first|(refine ai (by rfl) ?_)|(refine bC (by rfl) (by rfl) (fun K hK=>?_);go_big_quiet_op;refine hK _ ?_;clear hK K))
     refine bz ?_
     go_wp2_with fail
     exact bodyPost_ret (Ij (a:=4) (t:=5) (c:=6) (by rfl) Tryz.underlying30 rfl (by kernel_rfl) rfl zB.out) rfl (hfin.out)
theorem ajh(S0:Nat→Prop)(a a2:Option Addr)(cap cap2:Nat)(PL:List ah)(X0:List EE)(w0:World)(h0:∀j,S0 j→j<w0.heap.size)(hp:gQ w0 a PL)(hx:gY S0 w0 (fun y=>qj y a2 X0))(h1:PL.length≤4)(h2:X0.length≤6) :
  Calls Tryz.prog 6 #[.slice a PL.length cap,.slice a2 X0.length cap2] w0 (Bv S0 w0 (PL.length+X0.length)):=by
 rcases bH.addr hp with n1|⟨b,o,rfl,-⟩<;>rcases bH.addr hx.out.rows with n2|⟨b2,o2,rfl,-⟩
 ·obtain rfl:=List.eq_nil_of_length_eq_zero n1
  obtain rfl:=List.eq_nil_of_length_eq_zero n2
  exact ajd S0 _ _ _ _ _ h0
 ·obtain rfl:=List.eq_nil_of_length_eq_zero n1
  exact aje S0 _ _ _ _ _ _ _ h0 hx h2
 ·obtain rfl:=List.eq_nil_of_length_eq_zero n2
  exact ajf S0 _ _ _ _ _ _ _ h0 hp h1
 ·exact ajg S0 _ _ _ _ _ _ _ _ _ h0 hp hx h1 h2
end Go.Proofs.YtpfifochimkpfaaGreatDoor
