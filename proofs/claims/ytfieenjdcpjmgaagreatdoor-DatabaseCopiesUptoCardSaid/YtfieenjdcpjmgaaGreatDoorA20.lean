/- A part of the proof. -/
import Derived.Test.YtfieenjdcpjmgaaGreatDoorA17
import Derived.Test.YtfieenjdcpjmgaaGreatDoorA19
import Derived.Test.YtfieenjdcpjmgaaGreatDoorA12
import Derived.Test.YtfieenjdcpjmgaaGreatDoorA18
set_option maxRecDepth 100000
set_option maxHeartbeats 2000000
namespace Go.Proofs.YtfieenjdcpjmgaaGreatDoor
open Go.RowKit Go.WW
attribute [local irreducible] aH
theorem ai7(b n e p:Nat)(re:ByteArray)(s:Int)(N:List (ByteArray×Value))(E:List EE)(P:List ah)(t:Sl)(q:az)(w:World)(h:bU w b n e p re s N E P)(hre:¬re=⟨#[]⟩)(hq:bz w t q)(hno:∀x∈E,textOf x.2.name≠eP q) :
  Calls Tryz.prog 28 #[.pointer (some ⟨b,0,none⟩),.agg (ai t q)] w fun z w'=>z=.returned (.int .i64 9)∧Below w.heap.size w w':=by
 have hB:Below w.heap.size w (w.alloc (.cells (ai t q) 40)):=(Below.refl _ _).alloc (Nat.le_refl _) _
 have hx3:(w.alloc (.cells (ai t q) 40)).heap[w.heap.size]?=some (.cells (ai t q) 40):=World.alloc_heap_new _ _
 have h':=h.later hB
 have hq':=hq.later hB
 go_enter Tryz.func28,Tryz.ntmps28
 go_wp2_with fail
 generalize (w.alloc (.cells (ai t q) 40))=W at *
 obtain⟨c0,c1,c2,c3,c4,f1,hl⟩:=dM h'.box
 have l0:w.heap.size<W.heap.size:=(Array.getElem?_eq_some_iff.1 hx3).1
 have ji:row? W w.heap.size 0 2=some (ai t q):=by rw[bP hx3];exact dm (by simp[go_sem])
 refine(jA _ _ _ c0 hre).mono ?_
 rintro x w' ⟨rfl,rfl⟩
 dsimp only
 have hlk:∀x:Later W,(Instr.lookup 85 (.map (some e)) (.string (eP q)) true).run Tryz.prog x.w=.ok (.tuple #[.agg (ae dh bI),.bool false]) x.w:=fun x=>GL (h'.em.at (x.b.block e h'.em.lt)) _ hno
 go_wp2_with fail
 refine yI 11 6 [0,1,2,3,4,5,11,6,7,8,9,10,12,13] (Below.refl _ W) (by kernel_rfl) (by kernel_rfl) (by rfl) ?_ ?_
 ·intro v1 hv1
  iterate 6 (refine aP (by kernel_rfl) (by kernel_rfl) (fun K hK=>?_);go_big_quiet_op;refine hK _ ?_;clear hK K)
  refine aT (by rfl) (by rfl) (fun K hK=>?_)
  go_wp2_with fail
  refine(mW _ _ v1 (hq'.later hv1)).mono ?_
  rintro z v2 ⟨rfl,hv2⟩
  dsimp only
  have bF:=ag hv1 hv2
  refine hK _ _ (aA bF) ?_
  clear hK K
  iterate 4 (refine aP (by kernel_rfl) (by kernel_rfl) (fun K hK=>?_);go_big_quiet_op;refine hK _ ?_;clear hK K)
  refine aT (by rfl) (by rfl) (fun K hK=>?_)
  go_wp2_with fail
  refine hK _ _ (aA (aj bF _)) ?_
  clear hK K
  refine aT (by rfl) (by rfl) (fun K hK=>?_)
  go_wp2_with fail
  refine hK _ _ (aA (aj bF (.cells (ae dh bI) 47))) ?_
  clear hK K
  iterate 1 (refine aP (by kernel_rfl) (by kernel_rfl) (fun K hK=>?_);go_big_quiet_op;refine hK _ ?_;clear hK K)
  refine bQ ?_
  have dI:=aj bF (.cells (ae dh bI) 47)
  clear hlk hv1 hv2 bF
  generalize (v2.alloc (.cells (ae dh bI) 47))=V5 at *
  go_wp2_with fail
  go_ret
  exact⟨rfl,ag hB dI⟩
 ·intro v1 hv1
  simp only[pick,List.getElem?_cons_zero,List.getElem?_cons_succ]
  iterate 6 (refine aP (by kernel_rfl) (by kernel_rfl) (fun K hK=>?_);go_big_quiet_op;refine hK _ ?_;clear hK K)
  refine aT (by rfl) (by rfl) (fun K hK=>?_)
  go_wp2_with fail
  refine hK _ _ (aA (aj hv1 _)) ?_
  clear hK K
  rw[←rq]
  have hz1:=World.alloc_heap_new v1 (.cells (ae dh bI) 47)
  have gB:=aj hv1 (.cells (ae dh bI) 47)
  generalize v1.alloc (.cells (ae dh bI) 47)=Z at *
  refine aT (by rfl) (by rfl) (fun K hK=>?_)
  go_wp2_with fail
  refine(mW _ _ _ (hq'.later gB)).mono ?_
  rintro z v2 ⟨rfl,hv2⟩
  dsimp only
  have bF:=ag gB hv2
  refine hK _ _ (aA bF) ?_
  clear hK K
  have hz2:=aJ hv2 hz1
  have hcp:aQ v2 v1.heap.size 0 17=true:=mF hz2 (by simp[go_sem])
  have dI:=Go.WW.Below.putRow (o:=0) (cs:=ae dh bI) bF hv1.size
  iterate 4 (refine aP (by kernel_rfl) (by kernel_rfl) (fun K hK=>?_);go_big_quiet_op;refine hK _ ?_;clear hK K)
  refine aT (by rfl) (by rfl) (fun K hK=>?_)
  go_wp2_with fail
  refine hK _ _ (aA dI) ?_
  clear hK K
  iterate 1 (refine aP (by kernel_rfl) (by kernel_rfl) (fun K hK=>?_);go_big_quiet_op;refine hK _ ?_;clear hK K)
  refine bQ ?_
  clear hlk hv2 bF hz1 hz2 hcp gB
  generalize (putRow v2 v1.heap.size 0 (ae dh bI))=V5 at *
  go_wp2_with fail
  go_ret
  exact⟨rfl,ag hB dI⟩
theorem ai8(b n e p:Nat)(re:ByteArray)(s:Int)(N:List (ByteArray×Value))(E:List EE)(P:List ah)(t:Sl)(q:az)(w:World)(h:bU w b n e p re s N E P)(hre:¬re=⟨#[]⟩)(hq:bz w t q)(hE:∀x∈E,lV (aU b n e p) w x∧Az x.2)(hs0:0≤s)(hs1:s<1000000)(x0:EE)(hx0:x0∈E)(AO:textOf x0.2.name=eP q) :
  Calls Tryz.prog 28 #[.pointer (some ⟨b,0,none⟩),.agg (ai t q)] w fun z w'=>z=.returned (.int .i64 0)∧But (aU b n e p) w w'∧bU w' b n e p re (s+1) (rE N (x0.2.name::x0.2.aliases)) (qg E (eP q)) P:=by
 have hR:tV N E (eP q) (rE N (x0.2.name::x0.2.aliases)) (qg E (eP q)):=.inl ⟨x0,hx0,AO,rfl,rfl⟩
 have hB:Below w.heap.size w (w.alloc (.cells (ai t q) 40)):=(Below.refl _ _).alloc (Nat.le_refl _) _
 have hx3:(w.alloc (.cells (ai t q) 40)).heap[w.heap.size]?=some (.cells (ai t q) 40):=World.alloc_heap_new _ _
 have h':=h.later hB
 have hq':=hq.later hB
 go_enter Tryz.func28,Tryz.ntmps28
 go_wp2_with fail
 generalize (w.alloc (.cells (ai t q) 40))=W at *
 obtain⟨c0,c1,c2,c3,c4,f1,hl⟩:=dM h'.box
 have l0:w.heap.size<W.heap.size:=(Array.getElem?_eq_some_iff.1 hx3).1
 have ji:row? W w.heap.size 0 2=some (ai t q):=by rw[bP hx3];exact dm (by simp[go_sem])
 refine(jA _ _ _ c0 hre).mono ?_
 rintro x w' ⟨rfl,rfl⟩
 dsimp only
 have hlk:∀x:Later W,(Instr.lookup 85 (.map (some e)) (.string (eP q)) true).run Tryz.prog x.w=.ok (.tuple #[.agg (ae x0.1 x0.2),.bool true]) x.w:=fun x=>AO▸Au (h'.em.at (x.b.block e h'.em.lt)) x0 hx0
 go_wp2_with fail
 refine yI 11 6 [0,1,2,3,4,5,11,6,7,8,9,10,12,13] (Below.refl _ W) (by kernel_rfl) (by kernel_rfl) (by rfl) ?_ ?_
 ·intro v1 hv1
  iterate 6 (refine aP (by kernel_rfl) (by kernel_rfl) (fun K hK=>?_);go_big_quiet_op;refine hK _ ?_;clear hK K)
  refine aT (by rfl) (by rfl) (fun K hK=>?_)
  go_wp2_with fail
  refine(mW _ _ v1 (hq'.later hv1)).mono ?_
  rintro z v2 ⟨rfl,hv2⟩
  dsimp only
  have bF:=ag hv1 hv2
  refine hK _ _ (aA bF) ?_
  clear hK K
  iterate 4 (refine aP (by kernel_rfl) (by kernel_rfl) (fun K hK=>?_);go_big_quiet_op;refine hK _ ?_;clear hK K)
  refine aT (by rfl) (by rfl) (fun K hK=>?_)
  go_wp2_with fail
  refine hK _ _ (aA (aj bF _)) ?_
  clear hK K
  refine aT (by rfl) (by rfl) (fun K hK=>?_)
  go_wp2_with fail
  refine hK _ _ (aA (aj bF (.cells (ae x0.1 x0.2) 47))) ?_
  clear hK K
  iterate 1 (refine aP (by kernel_rfl) (by kernel_rfl) (fun K hK=>?_);go_big_quiet_op;refine hK _ ?_;clear hK K)
  refine bQ ?_
  have dI:=aj bF (.cells (ae x0.1 x0.2) 47)
  clear hlk hv1 hv2 bF
  generalize (v2.alloc (.cells (ae x0.1 x0.2) 47))=V5 at *
  have mM:=ag hB dI
  have h5:=h'.later dI
  have hx5:=aJ dI hx3
  clear c0 c1 c2 c3 c4 f1 hl ji l0
  have l0:w.heap.size<V5.heap.size:=(Array.getElem?_eq_some_iff.1 hx5).1
  have ji:row? V5 w.heap.size 0 2=some (ai t q):=by rw[bP hx5];exact dm (by simp[go_sem])
  have n0:=oW h w.heap.size (Nat.le_refl _)
  go_wp2_with fail
  refine mG (aU b n e p) (But.refl _ V5) (by kernel_rfl) (by kernel_rfl) ?_
  iterate 4 (refine aP (by kernel_rfl) (by kernel_rfl) (fun K hK=>?_);go_big_quiet_op;refine hK _ ?_;clear hK K)
  refine aT (by rfl) (by rfl) (fun K hK=>?_)
  go_wp2_with fail
  refine(mW _ _ V5.drew ((hq'.later dI).later (Below.refl _ _).drew)).mono ?_
  rintro z V6 ⟨rfl,hb6⟩
  dsimp only
  have lu:Below V5.heap.size V5 V6:=(Below.refl _ V5).drew.trans hb6
  refine hK _ _ (cu (But.of_below lu)) ?_
  clear hK K
  refine aT (by rfl) (by rfl) (fun K hK=>?_)
  go_wp2_with fail
  have nZ:=ag mM lu
  refine(Le b n e p re s N _ E _ P _ V6 (h.later nZ) (fun x hx=>⟨(hE x hx).1.on (But.of_below nZ),(hE x hx).2⟩) hR).mono ?_
  rintro z V7 ⟨rfl,hb7,h7⟩
  dsimp only
  have jX:But (aU b n e p) V5 V7:=(But.of_below lu).trans hb7
  refine hK _ _ (cu jX) ?_
  clear hK K
  refine bQ ?_
  have kL:But (aU b n e p) w V7:=(But.of_below mM).trans jX
  obtain⟨c0,c1,c2,c3,c4,f1,hl⟩:=dM h7.box
  go_wp2_with fail
  refine(wO b s V7 c1 f1 hs0 hs1).mono ?_
  rintro z w' ⟨rfl,rfl⟩
  dsimp only
  have lC:=dF (o:=1) (.int .i64 (s+1)) h7.box
  rw[uX]at lC
  have hoth:∀k,k≠b→(V7.setCell ⟨b,1,none⟩ (.int .i64 (s+1))).heap[k]?=V7.heap[k]?:=fun k hk=>Below.heap_setCell _ _ _ _ hk
  have yL:(V7.setCell ⟨b,1,none⟩ (.int .i64 (s+1))).heap.size=V7.heap.size:=by simp[World.setCell]
  have rG:But (aU b n e p) w (V7.setCell ⟨b,1,none⟩ (.int .i64 (s+1))):=⟨kL.os,kL.tape,kL.output,by rw[yL];exact kL.size,fun k hk hn'=>(hoth k (fun e'=>hn' (.inl e'))).trans (kL.block k hk hn')⟩
  have hnb:n≠b:=fun e'=>fK h7.box h7.nm e'.symm
  have heb:e≠b:=fun e'=>fK h7.box h7.em e'.symm
  have hpb:p≠b:=fun e'=>fK h7.box h7.pm e'.symm
  have h8:=bU.mk lC (h7.nm.at (hoth n hnb)) (h7.em.at (hoth e heb)) (h7.pm.at (hoth p hpb)) h.ne
  go_wp2_with fail
  go_ret
  exact⟨rfl,rG,h8⟩
 ·intro v1 hv1
  simp only[pick,List.getElem?_cons_zero,List.getElem?_cons_succ]
  iterate 6 (refine aP (by kernel_rfl) (by kernel_rfl) (fun K hK=>?_);go_big_quiet_op;refine hK _ ?_;clear hK K)
  refine aT (by rfl) (by rfl) (fun K hK=>?_)
  go_wp2_with fail
  refine hK _ _ (aA (aj hv1 _)) ?_
  clear hK K
  rw[←rq]
  have hz1:=World.alloc_heap_new v1 (.cells (ae dh bI) 47)
  have gB:=aj hv1 (.cells (ae dh bI) 47)
  generalize v1.alloc (.cells (ae dh bI) 47)=Z at *
  refine aT (by rfl) (by rfl) (fun K hK=>?_)
  go_wp2_with fail
  refine(mW _ _ _ (hq'.later gB)).mono ?_
  rintro z v2 ⟨rfl,hv2⟩
  dsimp only
  have bF:=ag gB hv2
  refine hK _ _ (aA bF) ?_
  clear hK K
  have hz2:=aJ hv2 hz1
  have hcp:aQ v2 v1.heap.size 0 17=true:=mF hz2 (by simp[go_sem])
  have dI:=Go.WW.Below.putRow (o:=0) (cs:=ae x0.1 x0.2) bF hv1.size
  iterate 4 (refine aP (by kernel_rfl) (by kernel_rfl) (fun K hK=>?_);go_big_quiet_op;refine hK _ ?_;clear hK K)
  refine aT (by rfl) (by rfl) (fun K hK=>?_)
  go_wp2_with fail
  refine hK _ _ (aA dI) ?_
  clear hK K
  iterate 1 (refine aP (by kernel_rfl) (by kernel_rfl) (fun K hK=>?_);go_big_quiet_op;refine hK _ ?_;clear hK K)
  refine bQ ?_
  clear hlk hv2 bF hz1 hz2 hcp gB
  generalize (putRow v2 v1.heap.size 0 (ae x0.1 x0.2))=V5 at *
  have mM:=ag hB dI
  have h5:=h'.later dI
  have hx5:=aJ dI hx3
  clear c0 c1 c2 c3 c4 f1 hl ji l0
  have l0:w.heap.size<V5.heap.size:=(Array.getElem?_eq_some_iff.1 hx5).1
  have ji:row? V5 w.heap.size 0 2=some (ai t q):=by rw[bP hx5];exact dm (by simp[go_sem])
  have n0:=oW h w.heap.size (Nat.le_refl _)
  go_wp2_with fail
  refine mG (aU b n e p) (But.refl _ V5) (by kernel_rfl) (by kernel_rfl) ?_
  iterate 4 (refine aP (by kernel_rfl) (by kernel_rfl) (fun K hK=>?_);go_big_quiet_op;refine hK _ ?_;clear hK K)
  refine aT (by rfl) (by rfl) (fun K hK=>?_)
  go_wp2_with fail
  refine(mW _ _ V5.drew ((hq'.later dI).later (Below.refl _ _).drew)).mono ?_
  rintro z V6 ⟨rfl,hb6⟩
  dsimp only
  have lu:Below V5.heap.size V5 V6:=(Below.refl _ V5).drew.trans hb6
  refine hK _ _ (cu (But.of_below lu)) ?_
  clear hK K
  refine aT (by rfl) (by rfl) (fun K hK=>?_)
  go_wp2_with fail
  have nZ:=ag mM lu
  refine(Le b n e p re s N _ E _ P _ V6 (h.later nZ) (fun x hx=>⟨(hE x hx).1.on (But.of_below nZ),(hE x hx).2⟩) hR).mono ?_
  rintro z V7 ⟨rfl,hb7,h7⟩
  dsimp only
  have jX:But (aU b n e p) V5 V7:=(But.of_below lu).trans hb7
  refine hK _ _ (cu jX) ?_
  clear hK K
  refine bQ ?_
  have kL:But (aU b n e p) w V7:=(But.of_below mM).trans jX
  obtain⟨c0,c1,c2,c3,c4,f1,hl⟩:=dM h7.box
  go_wp2_with fail
  refine(wO b s V7 c1 f1 hs0 hs1).mono ?_
  rintro z w' ⟨rfl,rfl⟩
  dsimp only
  have lC:=dF (o:=1) (.int .i64 (s+1)) h7.box
  rw[uX]at lC
  have hoth:∀k,k≠b→(V7.setCell ⟨b,1,none⟩ (.int .i64 (s+1))).heap[k]?=V7.heap[k]?:=fun k hk=>Below.heap_setCell _ _ _ _ hk
  have yL:(V7.setCell ⟨b,1,none⟩ (.int .i64 (s+1))).heap.size=V7.heap.size:=by simp[World.setCell]
  have rG:But (aU b n e p) w (V7.setCell ⟨b,1,none⟩ (.int .i64 (s+1))):=⟨kL.os,kL.tape,kL.output,by rw[yL];exact kL.size,fun k hk hn'=>(hoth k (fun e'=>hn' (.inl e'))).trans (kL.block k hk hn')⟩
  have hnb:n≠b:=fun e'=>fK h7.box h7.nm e'.symm
  have heb:e≠b:=fun e'=>fK h7.box h7.em e'.symm
  have hpb:p≠b:=fun e'=>fK h7.box h7.pm e'.symm
  have h8:=bU.mk lC (h7.nm.at (hoth n hnb)) (h7.em.at (hoth e heb)) (h7.pm.at (hoth p hpb)) h.ne
  go_wp2_with fail
  go_ret
  exact⟨rfl,rG,h8⟩
end Go.Proofs.YtfieenjdcpjmgaaGreatDoor
namespace Go.WW
open Go.RowKit
theorem Wq(r:aN)(d:Entry)(f a b:Int):(((ae r d).setIfInBounds 11 (.int .i64 f)).setIfInBounds 12 (.int .i64 a)).setIfInBounds 13 (.int .i64 b)=ae r (touched d f a b):=by kernel_rfl
theorem AP{S:Nat→Prop}{W w:World}{b o:Nat}{v:Value}(h:But S W w)(hb:S b∨W.heap.size≤b):But S W (w.setCell ⟨b,o,none⟩ v):=
 ⟨h.os,h.tape,h.output,by have:=h.size;simpa[World.setCell]using this,fun k hk hn=>(Below.heap_setCell _ _ _ _ (show k≠b by rintro rfl;rcases hb with hb|hb;exact hn hb;omega)).trans (h.block k hk hn)⟩
end Go.WW
namespace Go.Proofs.YtfieenjdcpjmgaaGreatDoor
open Go.RowKit Go.WW
attribute [local irreducible] aH
theorem ai9(b n e p:Nat)(re:ByteArray)(s:Int)(N:List (ByteArray×Value))(E:List EE)(P:List ah)(t:Sl)(q:az)(f la su:Int)(w:World)(h:bU w b n e p re s N E P)(hre:¬re=⟨#[]⟩)(hv:jZ f la su=false) :
  Calls Tryz.prog 37 #[.pointer (some ⟨b,0,none⟩),.agg (ai t q),.int .i64 f,.int .i64 la,.int .i64 su] w fun z w'=>z=.returned (.int .i64 2)∧Below w.heap.size w w':=by
 have hB:Below w.heap.size w (w.alloc (.cells (ai t q) 40)):=(Below.refl _ _).alloc (Nat.le_refl _) _
 have hx3:(w.alloc (.cells (ai t q) 40)).heap[w.heap.size]?=some (.cells (ai t q) 40):=World.alloc_heap_new _ _
 have h':=h.later hB
 go_enter Tryz.func37,Tryz.ntmps37
 go_wp2_with fail
 generalize (w.alloc (.cells (ai t q) 40))=W at *
 obtain⟨c0,c1,c2,c3,c4,f1,hl⟩:=dM h'.box
 have l0:w.heap.size<W.heap.size:=(Array.getElem?_eq_some_iff.1 hx3).1
 have ji:row? W w.heap.size 0 2=some (ai t q):=by rw[bP hx3];exact dm (by simp[go_sem])
 refine(jA _ _ _ c0 hre).mono ?_
 rintro x w' ⟨rfl,rfl⟩
 dsimp only
 have hcs:f<0∨(¬f<0∧65535<f)∨(¬f<0∧¬65535<f∧la<0)∨(¬f<0∧¬65535<f∧¬la<0∧1099511627776<la)∨(¬f<0∧¬65535<f∧¬la<0∧¬1099511627776<la∧su<0)∨(¬f<0∧¬65535<f∧¬la<0∧¬1099511627776<la∧¬su<0∧1099511627776<su):=by
  simp only[jZ,aB,Bool.and_eq_false_iff,decide_eq_false_iff_not]at hv
  omega
 rcases hcs with h1|⟨h1,h2⟩|⟨h1,h2,h3⟩|⟨h1,h2,h3,h4⟩|⟨h1,h2,h3,h4,h5⟩|⟨h1,h2,h3,h4,h5,h6⟩
 all_goals (
  go_wp2_with fail
  go_ret
  exact⟨rfl,hB⟩)
theorem aja(b n e p:Nat)(re:ByteArray)(s:Int)(N:List (ByteArray×Value))(E:List EE)(P:List ah)(t:Sl)(q:az)(f la su:Int)(w:World)(h:bU w b n e p re s N E P)(hre:¬re=⟨#[]⟩)(hq:bz w t q)(hv:jZ f la su=true)(hno:∀x∈E,textOf x.2.name≠eP q) :
  Calls Tryz.prog 37 #[.pointer (some ⟨b,0,none⟩),.agg (ai t q),.int .i64 f,.int .i64 la,.int .i64 su] w fun z w'=>z=.returned (.int .i64 9)∧Below w.heap.size w w':=by
 have hB:Below w.heap.size w (w.alloc (.cells (ai t q) 40)):=(Below.refl _ _).alloc (Nat.le_refl _) _
 have hx3:(w.alloc (.cells (ai t q) 40)).heap[w.heap.size]?=some (.cells (ai t q) 40):=World.alloc_heap_new _ _
 have h':=h.later hB
 have hq':=hq.later hB
 go_enter Tryz.func37,Tryz.ntmps37
 go_wp2_with fail
 generalize (w.alloc (.cells (ai t q) 40))=W at *
 obtain⟨c0,c1,c2,c3,c4,f1,hl⟩:=dM h'.box
 have l0:w.heap.size<W.heap.size:=(Array.getElem?_eq_some_iff.1 hx3).1
 have ji:row? W w.heap.size 0 2=some (ai t q):=by rw[bP hx3];exact dm (by simp[go_sem])
 refine(jA _ _ _ c0 hre).mono ?_
 rintro x w' ⟨rfl,rfl⟩
 dsimp only
 obtain⟨t1,t2,t3,t4,t5,t6⟩:¬f<0∧¬65535<f∧¬la<0∧¬1099511627776<la∧¬su<0∧¬1099511627776<su:=by
  simp only[jZ,aB,Bool.and_eq_true,decide_eq_true_eq]at hv
  omega
 have hlk:∀x:Later W,(Instr.lookup 85 (.map (some e)) (.string (eP q)) true).run Tryz.prog x.w=.ok (.tuple #[.agg (ae dh bI),.bool false]) x.w:=fun x=>GL (h'.em.at (x.b.block e h'.em.lt)) _ hno
 go_wp2_with fail
 refine yI 11 6 [0,1,2,3,4,5,11,6,7,8,9,10,12,13] (Below.refl _ W) (by kernel_rfl) (by kernel_rfl) (by rfl) ?_ ?_
 ·intro v1 hv1
  iterate 6 (refine aP (by kernel_rfl) (by kernel_rfl) (fun K hK=>?_);go_big_quiet_op;refine hK _ ?_;clear hK K)
  refine aT (by rfl) (by rfl) (fun K hK=>?_)
  go_wp2_with fail
  refine(mW _ _ v1 (hq'.later hv1)).mono ?_
  rintro z v2 ⟨rfl,hv2⟩
  dsimp only
  have bF:=ag hv1 hv2
  refine hK _ _ (aA bF) ?_
  clear hK K
  iterate 4 (refine aP (by kernel_rfl) (by kernel_rfl) (fun K hK=>?_);go_big_quiet_op;refine hK _ ?_;clear hK K)
  refine aT (by rfl) (by rfl) (fun K hK=>?_)
  go_wp2_with fail
  refine hK _ _ (aA (aj bF _)) ?_
  clear hK K
  refine aT (by rfl) (by rfl) (fun K hK=>?_)
  go_wp2_with fail
  refine hK _ _ (aA (aj bF (.cells (ae dh bI) 47))) ?_
  clear hK K
  iterate 1 (refine aP (by kernel_rfl) (by kernel_rfl) (fun K hK=>?_);go_big_quiet_op;refine hK _ ?_;clear hK K)
  refine bQ ?_
  have dI:=aj bF (.cells (ae dh bI) 47)
  have hbx:=World.alloc_heap_new v2 (.cells (ae dh bI) 47)
  have kT:W.heap.size≤v2.heap.size:=bF.size
  clear hlk hv1 hv2 bF
  generalize (v2.alloc (.cells (ae dh bI) 47))=V5 at *
  generalize v2.heap.size=bx at *
  go_wp2_with fail
  go_ret
  exact⟨rfl,ag hB dI⟩
 ·intro v1 hv1
  simp only[pick,List.getElem?_cons_zero,List.getElem?_cons_succ]
  iterate 6 (refine aP (by kernel_rfl) (by kernel_rfl) (fun K hK=>?_);go_big_quiet_op;refine hK _ ?_;clear hK K)
  refine aT (by rfl) (by rfl) (fun K hK=>?_)
  go_wp2_with fail
  refine hK _ _ (aA (aj hv1 _)) ?_
  clear hK K
  rw[←rq]
  have hz1:=World.alloc_heap_new v1 (.cells (ae dh bI) 47)
  have gB:=aj hv1 (.cells (ae dh bI) 47)
  generalize v1.alloc (.cells (ae dh bI) 47)=Z at *
  refine aT (by rfl) (by rfl) (fun K hK=>?_)
  go_wp2_with fail
  refine(mW _ _ _ (hq'.later gB)).mono ?_
  rintro z v2 ⟨rfl,hv2⟩
  dsimp only
  have bF:=ag gB hv2
  refine hK _ _ (aA bF) ?_
  clear hK K
  have hz2:=aJ hv2 hz1
  have hcp:aQ v2 v1.heap.size 0 17=true:=mF hz2 (by simp[go_sem])
  have dI:=Go.WW.Below.putRow (o:=0) (cs:=ae dh bI) bF hv1.size
  iterate 4 (refine aP (by kernel_rfl) (by kernel_rfl) (fun K hK=>?_);go_big_quiet_op;refine hK _ ?_;clear hK K)
  refine aT (by rfl) (by rfl) (fun K hK=>?_)
  go_wp2_with fail
  refine hK _ _ (aA dI) ?_
  clear hK K
  iterate 1 (refine aP (by kernel_rfl) (by kernel_rfl) (fun K hK=>?_);go_big_quiet_op;refine hK _ ?_;clear hK K)
  refine bQ ?_
  have hbx:=mD (o:=0) (cs:=ae dh bI) hz2 (by simp[go_sem])
  rw[tq (by simp[go_sem])]at hbx
  have kT:W.heap.size≤v1.heap.size:=hv1.size
  clear hlk hv2 bF hz1 hz2 hcp gB
  generalize (putRow v2 v1.heap.size 0 (ae dh bI))=V5 at *
  generalize v1.heap.size=bx at *
  go_wp2_with fail
  go_ret
  exact⟨rfl,ag hB dI⟩
theorem ajb(b n e p:Nat)(re:ByteArray)(s:Int)(N:List (ByteArray×Value))(E:List EE)(P:List ah)(t:Sl)(q:az)(f la su:Int)(w:World)(h:bU w b n e p re s N E P)(hre:¬re=⟨#[]⟩)(hq:bz w t q)(hv:jZ f la su=true)(hg:gW (E.map (·.2)))(hs0:0≤s)(hs1:s<1000000)(x0:EE)(hx0:x0∈E)(AO:textOf x0.2.name=eP q) :
  Calls Tryz.prog 37 #[.pointer (some ⟨b,0,none⟩),.agg (ai t q),.int .i64 f,.int .i64 la,.int .i64 su] w fun z w'=>z=.returned (.int .i64 0)∧But (aU b n e p) w w'∧bU w' b n e p re (s+1) N (E.map (uj (eP q) f la su)) P:=by
 have hB:Below w.heap.size w (w.alloc (.cells (ai t q) 40)):=(Below.refl _ _).alloc (Nat.le_refl _) _
 have hx3:(w.alloc (.cells (ai t q) 40)).heap[w.heap.size]?=some (.cells (ai t q) 40):=World.alloc_heap_new _ _
 have h':=h.later hB
 have hq':=hq.later hB
 go_enter Tryz.func37,Tryz.ntmps37
 go_wp2_with fail
 generalize (w.alloc (.cells (ai t q) 40))=W at *
 obtain⟨c0,c1,c2,c3,c4,f1,hl⟩:=dM h'.box
 have l0:w.heap.size<W.heap.size:=(Array.getElem?_eq_some_iff.1 hx3).1
 have ji:row? W w.heap.size 0 2=some (ai t q):=by rw[bP hx3];exact dm (by simp[go_sem])
 refine(jA _ _ _ c0 hre).mono ?_
 rintro x w' ⟨rfl,rfl⟩
 dsimp only
 obtain⟨t1,t2,t3,t4,t5,t6⟩:¬f<0∧¬65535<f∧¬la<0∧¬1099511627776<la∧¬su<0∧¬1099511627776<su:=by
  simp only[jZ,aB,Bool.and_eq_true,decide_eq_true_eq]at hv
  omega
 have hlk:∀x:Later W,(Instr.lookup 85 (.map (some e)) (.string (eP q)) true).run Tryz.prog x.w=.ok (.tuple #[.agg (ae x0.1 x0.2),.bool true]) x.w:=fun x=>AO▸Au (h'.em.at (x.b.block e h'.em.lt)) x0 hx0
 go_wp2_with fail
 refine yI 11 6 [0,1,2,3,4,5,11,6,7,8,9,10,12,13] (Below.refl _ W) (by kernel_rfl) (by kernel_rfl) (by rfl) ?_ ?_
 ·intro v1 hv1
  iterate 6 (refine aP (by kernel_rfl) (by kernel_rfl) (fun K hK=>?_);go_big_quiet_op;refine hK _ ?_;clear hK K)
  refine aT (by rfl) (by rfl) (fun K hK=>?_)
  go_wp2_with fail
  refine(mW _ _ v1 (hq'.later hv1)).mono ?_
  rintro z v2 ⟨rfl,hv2⟩
  dsimp only
  have bF:=ag hv1 hv2
  refine hK _ _ (aA bF) ?_
  clear hK K
  iterate 4 (refine aP (by kernel_rfl) (by kernel_rfl) (fun K hK=>?_);go_big_quiet_op;refine hK _ ?_;clear hK K)
  refine aT (by rfl) (by rfl) (fun K hK=>?_)
  go_wp2_with fail
  refine hK _ _ (aA (aj bF _)) ?_
  clear hK K
  refine aT (by rfl) (by rfl) (fun K hK=>?_)
  go_wp2_with fail
  refine hK _ _ (aA (aj bF (.cells (ae x0.1 x0.2) 47))) ?_
  clear hK K
  iterate 1 (refine aP (by kernel_rfl) (by kernel_rfl) (fun K hK=>?_);go_big_quiet_op;refine hK _ ?_;clear hK K)
  refine bQ ?_
  have dI:=aj bF (.cells (ae x0.1 x0.2) 47)
  have hbx:=World.alloc_heap_new v2 (.cells (ae x0.1 x0.2) 47)
  have kT:W.heap.size≤v2.heap.size:=bF.size
  clear hlk hv1 hv2 bF
  generalize (v2.alloc (.cells (ae x0.1 x0.2) 47))=V5 at *
  generalize v2.heap.size=bx at *
  have mM:=ag hB dI
  have h5:=h'.later dI
  have hx5:=aJ dI hx3
  clear c0 c1 c2 c3 c4 f1 hl ji l0
  have l0:w.heap.size<V5.heap.size:=(Array.getElem?_eq_some_iff.1 hx5).1
  have ji:row? V5 w.heap.size 0 2=some (ai t q):=by rw[bP hx5];exact dm (by simp[go_sem])
  have n0:=oW h w.heap.size (Nat.le_refl _)
  obtain⟨hc,hf,hr,hlt⟩:=aC hbx
  go_wp2_with fail
  have hs3:=dF (o:=13) (.int .i64 su) (dF (o:=12) (.int .i64 la) (dF (o:=11) (.int .i64 f) hbx))
  rw[Wq]at hs3
  have hbw:w.heap.size≤bx:=Nat.le_trans hB.size kT
  have hb3:Below W.heap.size W (((V5.setCell ⟨bx,11,none⟩ (.int .i64 f)).setCell ⟨bx,12,none⟩ (.int .i64 la)).setCell ⟨bx,13,none⟩ (.int .i64 su)):=((dI.setCell kT _).setCell kT _).setCell kT _
  clear hc hf hr hlt hbx dI
  generalize (((V5.setCell ⟨bx,11,none⟩ (.int .i64 f)).setCell ⟨bx,12,none⟩ (.int .i64 la)).setCell ⟨bx,13,none⟩ (.int .i64 su))=V6 at *
  clear mM h5 hx5 l0 ji
  have nZ:=ag hB hb3
  have h6:=h.later nZ
  have hx6:=aJ hb3 hx3
  obtain⟨c0,c1,c2,c3,c4,f1,hl⟩:=dM h6.box
  have l0:w.heap.size<V6.heap.size:=(Array.getElem?_eq_some_iff.1 hx6).1
  have l1:bx<V6.heap.size:=(Array.getElem?_eq_some_iff.1 hs3).1
  have ji:row? V6 w.heap.size 0 2=some (ai t q):=by rw[bP hx6];exact dm (by simp[go_sem])
  have ajc:row? V6 bx 0 17=some (ae x0.1 (touched x0.2 f la su)):=by rw[bP hs3];exact dm (by simp[go_sem])
  have n1:=oW h bx hbw
  have e1:¬one e w.heap.size:=bf (fun e'=>n0 (.inr (.inr (.inl e'))))
  have e2:¬one e bx:=bf (fun e'=>n1 (.inr (.inr (.inl e'))))
  have e3:¬one e b:=bf (fK h.box h.em)
  go_wp2_with fail
  refine mG (one e) (But.refl _ V6) (by kernel_rfl) (by kernel_rfl) ?_
  repeat (first|(refine ak (by rfl) ?_)|(refine aP (by rfl) (by rfl) (fun K hK=>?_);go_big_quiet_op;refine hK _ ?_;clear hK K))
  refine aT (by rfl) (by rfl) (fun K hK=>?_)
  go_wp2_with fail
  refine(mW _ _ V6.drew ((hq'.later hb3).later (Below.refl _ _).drew)).mono ?_
  rintro z V7 ⟨rfl,hb7⟩
  dsimp only
  have jX:Below V6.heap.size V6 V7:=(Below.refl _ V6).drew.trans hb7
  refine hK _ _ (cu (But.of_below jX)) ?_
  clear hK K
  repeat (first|(refine ak (by rfl) ?_)|(refine aP (by rfl) (by rfl) (fun K hK=>?_);go_big_quiet_op;refine hK _ ?_;clear hK K))
  obtain⟨V8,hrun,DN,hb8,hs8⟩:=Aj (P:=Tryz.prog) (k:=eP q) (v:=.agg (ae x0.1 (touched x0.2 f la su))) Tryz.underlying85 Tryz.underlying9 (h6.em.at (jX.block e h6.em.lt))
  rw[show Value.agg (ae x0.1 (touched x0.2 f la su))=Value.agg (bY (x0.1,touched x0.2 f la su)) from rfl,Wp hg hx0 AO]at DN
  have oh:But (one e) V6 V8:=(But.of_below jX).trans ⟨hb8.os,hb8.tape,hb8.output,hb8.size,hb8.block⟩
  refine aT (by rfl) (by rfl) (fun K hK=>?_)
  go_wp2_with fail
  refine hK _ _ (cu oh) ?_
  clear hK K
  repeat (first|(refine ak (by rfl) ?_)|(refine aP (by rfl) (by rfl) (fun K hK=>?_);go_big_quiet_op;refine hK _ ?_;clear hK K))
  refine bQ ?_
  have jV:V8.heap[b]?=some (.cells (kJ re s n e p) 90):=(oh.block b hl e3).trans h6.box
  obtain⟨oU,ve,Gs,Gt⟩:=aC jV
  have hc91:=oU 1
  have vg:=ve 1
  go_wp2_with fail
  refine(wO b s V8 hc91 vg hs0 hs1).mono ?_
  rintro z w' ⟨rfl,rfl⟩
  dsimp only
  have rG:But (aU b n e p) w V8:=(But.of_below nZ).trans (oh.mono fun k hk=>.inr (.inr (.inl hk)))
  have lC:=dF (o:=1) (.int .i64 (s+1)) jV
  rw[uX]at lC
  have hoth:∀k,k≠b→(V8.setCell ⟨b,1,none⟩ (.int .i64 (s+1))).heap[k]?=V8.heap[k]?:=fun k hk=>Below.heap_setCell _ _ _ _ hk
  have hnb:n≠b:=fun e'=>fK h6.box h6.nm e'.symm
  have heb:e≠b:=fun e'=>fK h6.box h6.em e'.symm
  have hpb:p≠b:=fun e'=>fK h6.box h6.pm e'.symm
  have h8:=bU.mk lC (h6.nm.at ((hoth n hnb).trans (oh.block n h6.nm.lt (bf h.ne.1)))) (DN.at (hoth e heb)) (h6.pm.at ((hoth p hpb).trans (oh.block p h6.pm.lt (bf (Ne.symm h.ne.2.2))))) h.ne
  have DR:=AP (o:=1) (v:=.int .i64 (s+1)) rG (.inl (.inl rfl))
  go_wp2_with fail
  go_ret
  exact⟨rfl,DR,h8⟩
 ·intro v1 hv1
  simp only[pick,List.getElem?_cons_zero,List.getElem?_cons_succ]
  iterate 6 (refine aP (by kernel_rfl) (by kernel_rfl) (fun K hK=>?_);go_big_quiet_op;refine hK _ ?_;clear hK K)
  refine aT (by rfl) (by rfl) (fun K hK=>?_)
  go_wp2_with fail
  refine hK _ _ (aA (aj hv1 _)) ?_
  clear hK K
  rw[←rq]
  have hz1:=World.alloc_heap_new v1 (.cells (ae dh bI) 47)
  have gB:=aj hv1 (.cells (ae dh bI) 47)
  generalize v1.alloc (.cells (ae dh bI) 47)=Z at *
  refine aT (by rfl) (by rfl) (fun K hK=>?_)
  go_wp2_with fail
  refine(mW _ _ _ (hq'.later gB)).mono ?_
  rintro z v2 ⟨rfl,hv2⟩
  dsimp only
  have bF:=ag gB hv2
  refine hK _ _ (aA bF) ?_
  clear hK K
  have hz2:=aJ hv2 hz1
  have hcp:aQ v2 v1.heap.size 0 17=true:=mF hz2 (by simp[go_sem])
  have dI:=Go.WW.Below.putRow (o:=0) (cs:=ae x0.1 x0.2) bF hv1.size
  iterate 4 (refine aP (by kernel_rfl) (by kernel_rfl) (fun K hK=>?_);go_big_quiet_op;refine hK _ ?_;clear hK K)
  refine aT (by rfl) (by rfl) (fun K hK=>?_)
  go_wp2_with fail
  refine hK _ _ (aA dI) ?_
  clear hK K
  iterate 1 (refine aP (by kernel_rfl) (by kernel_rfl) (fun K hK=>?_);go_big_quiet_op;refine hK _ ?_;clear hK K)
  refine bQ ?_
  have hbx:=mD (o:=0) (cs:=ae x0.1 x0.2) hz2 (by simp[go_sem])
  rw[tq (by simp[go_sem])]at hbx
  have kT:W.heap.size≤v1.heap.size:=hv1.size
  clear hlk hv2 bF hz1 hz2 hcp gB
  generalize (putRow v2 v1.heap.size 0 (ae x0.1 x0.2))=V5 at *
  generalize v1.heap.size=bx at *
  have mM:=ag hB dI
  have h5:=h'.later dI
  have hx5:=aJ dI hx3
  clear c0 c1 c2 c3 c4 f1 hl ji l0
  have l0:w.heap.size<V5.heap.size:=(Array.getElem?_eq_some_iff.1 hx5).1
  have ji:row? V5 w.heap.size 0 2=some (ai t q):=by rw[bP hx5];exact dm (by simp[go_sem])
  have n0:=oW h w.heap.size (Nat.le_refl _)
  obtain⟨hc,hf,hr,hlt⟩:=aC hbx
  go_wp2_with fail
  have hs3:=dF (o:=13) (.int .i64 su) (dF (o:=12) (.int .i64 la) (dF (o:=11) (.int .i64 f) hbx))
  rw[Wq]at hs3
  have hbw:w.heap.size≤bx:=Nat.le_trans hB.size kT
  have hb3:Below W.heap.size W (((V5.setCell ⟨bx,11,none⟩ (.int .i64 f)).setCell ⟨bx,12,none⟩ (.int .i64 la)).setCell ⟨bx,13,none⟩ (.int .i64 su)):=((dI.setCell kT _).setCell kT _).setCell kT _
  clear hc hf hr hlt hbx dI
  generalize (((V5.setCell ⟨bx,11,none⟩ (.int .i64 f)).setCell ⟨bx,12,none⟩ (.int .i64 la)).setCell ⟨bx,13,none⟩ (.int .i64 su))=V6 at *
  clear mM h5 hx5 l0 ji
  have nZ:=ag hB hb3
  have h6:=h.later nZ
  have hx6:=aJ hb3 hx3
  obtain⟨c0,c1,c2,c3,c4,f1,hl⟩:=dM h6.box
  have l0:w.heap.size<V6.heap.size:=(Array.getElem?_eq_some_iff.1 hx6).1
  have l1:bx<V6.heap.size:=(Array.getElem?_eq_some_iff.1 hs3).1
  have ji:row? V6 w.heap.size 0 2=some (ai t q):=by rw[bP hx6];exact dm (by simp[go_sem])
  have ajc:row? V6 bx 0 17=some (ae x0.1 (touched x0.2 f la su)):=by rw[bP hs3];exact dm (by simp[go_sem])
  have n1:=oW h bx hbw
  have e1:¬one e w.heap.size:=bf (fun e'=>n0 (.inr (.inr (.inl e'))))
  have e2:¬one e bx:=bf (fun e'=>n1 (.inr (.inr (.inl e'))))
  have e3:¬one e b:=bf (fK h.box h.em)
  go_wp2_with fail
  refine mG (one e) (But.refl _ V6) (by kernel_rfl) (by kernel_rfl) ?_
  repeat (first|(refine ak (by rfl) ?_)|(refine aP (by rfl) (by rfl) (fun K hK=>?_);go_big_quiet_op;refine hK _ ?_;clear hK K))
  refine aT (by rfl) (by rfl) (fun K hK=>?_)
  go_wp2_with fail
  refine(mW _ _ V6.drew ((hq'.later hb3).later (Below.refl _ _).drew)).mono ?_
  rintro z V7 ⟨rfl,hb7⟩
  dsimp only
  have jX:Below V6.heap.size V6 V7:=(Below.refl _ V6).drew.trans hb7
  refine hK _ _ (cu (But.of_below jX)) ?_
  clear hK K
  repeat (first|(refine ak (by rfl) ?_)|(refine aP (by rfl) (by rfl) (fun K hK=>?_);go_big_quiet_op;refine hK _ ?_;clear hK K))
  obtain⟨V8,hrun,DN,hb8,hs8⟩:=Aj (P:=Tryz.prog) (k:=eP q) (v:=.agg (ae x0.1 (touched x0.2 f la su))) Tryz.underlying85 Tryz.underlying9 (h6.em.at (jX.block e h6.em.lt))
  rw[show Value.agg (ae x0.1 (touched x0.2 f la su))=Value.agg (bY (x0.1,touched x0.2 f la su)) from rfl,Wp hg hx0 AO]at DN
  have oh:But (one e) V6 V8:=(But.of_below jX).trans ⟨hb8.os,hb8.tape,hb8.output,hb8.size,hb8.block⟩
  refine aT (by rfl) (by rfl) (fun K hK=>?_)
  go_wp2_with fail
  refine hK _ _ (cu oh) ?_
  clear hK K
  repeat (first|(refine ak (by rfl) ?_)|(refine aP (by rfl) (by rfl) (fun K hK=>?_);go_big_quiet_op;refine hK _ ?_;clear hK K))
  refine bQ ?_
  have jV:V8.heap[b]?=some (.cells (kJ re s n e p) 90):=(oh.block b hl e3).trans h6.box
  obtain⟨oU,ve,Gs,Gt⟩:=aC jV
  have hc91:=oU 1
  have vg:=ve 1
  go_wp2_with fail
  refine(wO b s V8 hc91 vg hs0 hs1).mono ?_
  rintro z w' ⟨rfl,rfl⟩
  dsimp only
  have rG:But (aU b n e p) w V8:=(But.of_below nZ).trans (oh.mono fun k hk=>.inr (.inr (.inl hk)))
  have lC:=dF (o:=1) (.int .i64 (s+1)) jV
  rw[uX]at lC
  have hoth:∀k,k≠b→(V8.setCell ⟨b,1,none⟩ (.int .i64 (s+1))).heap[k]?=V8.heap[k]?:=fun k hk=>Below.heap_setCell _ _ _ _ hk
  have hnb:n≠b:=fun e'=>fK h6.box h6.nm e'.symm
  have heb:e≠b:=fun e'=>fK h6.box h6.em e'.symm
  have hpb:p≠b:=fun e'=>fK h6.box h6.pm e'.symm
  have h8:=bU.mk lC (h6.nm.at ((hoth n hnb).trans (oh.block n h6.nm.lt (bf h.ne.1)))) (DN.at (hoth e heb)) (h6.pm.at ((hoth p hpb).trans (oh.block p h6.pm.lt (bf (Ne.symm h.ne.2.2))))) h.ne
  have DR:=AP (o:=1) (v:=.int .i64 (s+1)) rG (.inl (.inl rfl))
  go_wp2_with fail
  go_ret
  exact⟨rfl,DR,h8⟩
end Go.Proofs.YtfieenjdcpjmgaaGreatDoor
namespace Go.WW
open Go.RowKit
def oZ(w:World)(i:Nat):Nat:=
 match w.heap[i]? with
 |some (.mapIter (some b) _ seen _)=>(match w.heap[b]? with|some (.map es _)=>(leftOf es seen).size|_=>0)
 |_=>0
theorem lq.oZ{w:World}{i b:Nat}{m left:List (ByteArray×Value)}(h:lq w i b m left):oZ w i=left.length:=by
 obtain⟨es,clock,seen,c0,h1,h2,-,-,h5⟩:=h
 have hl:=congrArg List.length h5
 simp only[List.length_map,Array.length_toList]at hl
 unfold Go.WW.oZ
 rw[h1]
 dsimp only
 rw[h2]
 exact hl
end Go.WW
namespace Go.Proofs.YtfieenjdcpjmgaaGreatDoor
open Go.RowKit Go.WW
theorem ajd(b n e p:Nat)(re:ByteArray)(s:Int)(N:List (ByteArray×Value))(E:List EE)(P:List ah)(k:ByteArray)(w:World)(h:bU w b n e p re s N E P)(hre:¬re=⟨#[]⟩)(hP:P.any (fun x=>decide (x.name=k))=false) :
  Calls Tryz.prog 30 #[.pointer (some ⟨b,0,none⟩),.string k] w fun z w'=>z=.returned (.int .i64 9)∧Below w.heap.size w w':=by
 obtain⟨c0,c1,c2,c3,c4,f1,hl⟩:=dM h.box
 have hlk:=Gq h.pm k hP
 go_enter Tryz.func30,Tryz.ntmps30
 go_wp2_with fail
 refine(jA _ _ _ c0 hre).mono ?_
 rintro x w' ⟨rfl,rfl⟩
 dsimp only
 go_wp2_with fail
 go_ret
 exact⟨rfl,aj (Below.refl _ w) _⟩
theorem aje(b n e p:Nat)(re:ByteArray)(s:Int)(N:List (ByteArray×Value))(E:List EE)(P:List ah)(q0:ah)(w:World)(h:bU w b n e p re s N E P)(hre:¬re=⟨#[]⟩)(hq:q0∈P)(hb:∃x∈E,x.2.aO=q0.name) :
  Calls Tryz.prog 30 #[.pointer (some ⟨b,0,none⟩),.string q0.name] w fun z w'=>z=.returned (.int .i64 11)∧Below w.heap.size w w':=by
 obtain⟨c0,c1,c2,c3,c4,f1,hl⟩:=dM h.box
 have hlk:=Gp h.pm q0 hq
 have hB:Below w.heap.size w (w.alloc (.cells (aG q0) 50)):=aj (Below.refl _ w) _
 obtain⟨w1,hrange,hit,hb1,hs1⟩:=Gh (P:=Tryz.prog) (w:=w.alloc (.cells (aG q0) 50)) Tryz.underlying85 ((h.later hB).em)
 obtain⟨i,hi⟩:∃i,i=(w.alloc (.cells (aG q0) 50)).heap.size:=⟨_,rfl⟩
 rw[←hi]at hrange hit hs1
 have hB1:=ag hB (by rw[←hi]at hb1;rw[←hi];exact hb1)
 have hiw:w.heap.size<i:=by rw[hi];simp
 clear hi hb1
 have HB:=Lib.hid hb
 clear hb
 go_enter Tryz.func30,Tryz.ntmps30
 go_wp2_with fail
 refine(jA _ _ _ c0 hre).mono ?_
 rintro x w' ⟨rfl,rfl⟩
 dsimp only
 go_wp2_with fail
 clear hrange hlk
 go_loopw [] (fun wr=>∃left:List EE,Hid (lq wr i e (lF E) (lF left))∧Hid (∃x∈left,x.2.aO=q0.name)∧Below w.heap.size w wr) (fun wr=>oZ wr i)
 case atStart=>exact⟨E,hit,HB,hB1⟩
 case round=>
  obtain⟨left,hI,hp,hbr⟩:=hrel
  rcases Gi (P:=Tryz.prog) 0 hI.out with⟨hl0,hrun⟩|⟨l1,x,l2,w2,hl,hrun,hent,hI2,hb2,hs2⟩
  ·obtain rfl:left=[]:=by cases left<;>simp_all
   obtain⟨x,hx,-⟩:=hp.out
   cases hx
  ·obtain⟨L1,L',hL,e1,e2⟩:=List.map_eq_append_iff.1 hl
   obtain⟨y,L2,rfl,e3,e4⟩:=List.map_eq_cons_iff.1 e2
   subst e3 e1 e4 hL
   have hbw2:Below w.heap.size w w2:=yS hbr hb2 (fun j (hj:j=i)=>by omega)
   have hrun':(Instr.next (.pointer (some ⟨i,0,none⟩)) false 0).run Tryz.prog wr=.ok (.tuple #[.bool true,.string (textOf y.2.name),.agg (bY y)]) w2:=hrun
   have DF:(Instr.entry (.pointer (some ⟨i,0,none⟩))).run Tryz.prog w2=.ok (.tuple #[.string (textOf y.2.name),.agg (bY y)]) w2:=hent
   simp only[bY]at hrun' DF
   clear hrun hent
   by_cases hk:y.2.aO=q0.name
   ·have hse:=str_eq _ _ hk
    go_wp2_with fail
    go_ret
    exact⟨rfl,aj hbw2 _⟩
   ·have hse:=kY _ _ hk
    have hbn:=aj hbw2 (.cells (ae y.1 y.2) 47)
    have hsz:i<w2.heap.size:=hI2.lt
    have hel:e<w2.heap.size:=hI2.map.lt
    have yT:lq (w2.alloc (.cells (ae y.1 y.2) 47)) i e (lF E) (lF (L1++L2)):=by
     have:=hI2.at (w':=w2.alloc (.cells (ae y.1 y.2) 47)) (Below.heap_alloc _ _ _ hsz) (Below.heap_alloc _ _ _ hel)
     rw[show lF (L1++L2)=lF L1++lF L2 from List.map_append];exact this
    have hm1:=yT.oZ
    have hm0:=hI.out.oZ
    have HM:=Lib.hid (show oZ (w2.alloc (.cells (ae y.1 y.2) 47)) i<oZ wr i by rw[hm1,hm0];simp)
    have HI3:=Lib.hid yT
    clear hm1 hm0 yT
    go_wp2_with fail
    go_roundw
    case rel=>
     refine⟨L1++L2,HI3,?_,hbn⟩
     obtain⟨x,hx,ex⟩:=hp.out
     refine⟨x,?_,ex⟩
     rcases List.mem_append.1 hx with hx|hx
     ·exact List.mem_append.2 (.inl hx)
     ·rcases List.mem_cons.1 hx with rfl|hx
      ·exact absurd ex hk
      ·exact List.mem_append.2 (.inr hx)
    case measure=>exact HM.out
theorem ajf(b n e p:Nat)(re:ByteArray)(s:Int)(N:List (ByteArray×Value))(E:List EE)(P:List ah)(q0:ah)(w:World)(h:bU w b n e p re s N E P)(hre:¬re=⟨#[]⟩)(hq:q0∈P)(hb:∀x∈E,¬x.2.aO=q0.name)(hs0:0≤s)(hs1:s<1000000) :
  Calls Tryz.prog 30 #[.pointer (some ⟨b,0,none⟩),.string q0.name] w fun z w'=>z=.returned (.int .i64 0)∧But (aU b n e p) w w'∧bU w' b n e p re (s+1) N E (DL P q0.name):=by
 obtain⟨c0,c1,c2,c3,c4,f1,hl⟩:=dM h.box
 have hlk:=Gp h.pm q0 hq
 have hB:Below w.heap.size w (w.alloc (.cells (aG q0) 50)):=aj (Below.refl _ w) _
 obtain⟨w1,hrange,hit,hb1,hsw⟩:=Gh (P:=Tryz.prog) (w:=w.alloc (.cells (aG q0) 50)) Tryz.underlying85 ((h.later hB).em)
 obtain⟨i,hi⟩:∃i,i=(w.alloc (.cells (aG q0) 50)).heap.size:=⟨_,rfl⟩
 rw[←hi]at hrange hit hsw
 have hB1:=ag hB (by rw[←hi]at hb1;rw[←hi];exact hb1)
 have hiw:w.heap.size<i:=by rw[hi];simp
 clear hi hb1 hsw
 have HB:=Lib.hid hb
 clear hb
 go_enter Tryz.func30,Tryz.ntmps30
 go_wp2_with fail
 refine(jA _ _ _ c0 hre).mono ?_
 rintro x w' ⟨rfl,rfl⟩
 dsimp only
 go_wp2_with fail
 clear hrange hlk
 go_loopw [] (fun wr=>∃left:List EE,Hid (lq wr i e (lF E) (lF left))∧Hid (∀x∈left,x∈E)∧Below w.heap.size w wr) (fun wr=>oZ wr i)
 case atStart=>exact⟨E,hit,Lib.hid (fun x hx=>hx),hB1⟩
 case round=>
  obtain⟨left,hI,hp,hbr⟩:=hrel
  rcases Gi (P:=Tryz.prog) 0 hI.out with⟨hl0,hrun⟩|⟨l1,x,l2,w2,hl,hrun,hent,hI2,hb2,hs2⟩
  ·obtain rfl:left=[]:=by cases left<;>simp_all
   have h4:=h.later hbr
   clear c0 c1 c2 c3 c4 f1 hl
   obtain⟨c0,c1,c2,c3,c4,f1,hl⟩:=dM h4.box
   obtain⟨w5,hdel,Ws,hb5,hs5⟩:=J7 (P:=Tryz.prog) (k:=q0.name) (ty:=0) (nG:=#[86,9]) rfl Tryz.underlying86 Tryz.underlying9 h4.pm
   rw[aiT]at Ws
   have hbp:b≠p:=fK h4.box h4.pm
   have Wu:w5.heap[b]?=some (.cells (kJ re s n e p) 90):=(hb5.block b hl hbp).trans h4.box
   obtain⟨oU,ve,Gs,Gt⟩:=aC Wu
   have hc91:=oU 1
   have vg:=ve 1
   go_wp2_with fail
   refine(wO b s w5 hc91 vg hs0 hs1).mono ?_
   rintro z w' ⟨rfl,rfl⟩
   dsimp only
   have rG:But (aU b n e p) w w5:=(But.of_below hbr).trans (hb5.mono fun k hk=>.inr (.inr (.inr hk)))
   have lC:=dF (o:=1) (.int .i64 (s+1)) Wu
   rw[uX]at lC
   have hoth:∀k,k≠b→(w5.setCell ⟨b,1,none⟩ (.int .i64 (s+1))).heap[k]?=w5.heap[k]?:=fun k hk=>Below.heap_setCell _ _ _ _ hk
   have hnb:n≠b:=fun e'=>fK h4.box h4.nm e'.symm
   have heb:e≠b:=fun e'=>fK h4.box h4.em e'.symm
   have h8:=bU.mk lC (h4.nm.at ((hoth n hnb).trans (hb5.block n h4.nm.lt h.ne.2.1))) (h4.em.at ((hoth e heb).trans (hb5.block e h4.em.lt h.ne.2.2))) (Ws.at (hoth p (Ne.symm hbp))) h.ne
   have DR:=AP (o:=1) (v:=.int .i64 (s+1)) rG (.inl (.inl rfl))
   go_wp2_with fail
   go_ret
   exact⟨rfl,DR,h8⟩
  ·obtain⟨L1,L',hL,e1,e2⟩:=List.map_eq_append_iff.1 hl
   obtain⟨y,L2,rfl,e3,e4⟩:=List.map_eq_cons_iff.1 e2
   subst e3 e1 e4 hL
   have hbw2:Below w.heap.size w w2:=yS hbr hb2 (fun j (hj:j=i)=>by omega)
   have hrun':(Instr.next (.pointer (some ⟨i,0,none⟩)) false 0).run Tryz.prog wr=.ok (.tuple #[.bool true,.string (textOf y.2.name),.agg (bY y)]) w2:=hrun
   have DF:(Instr.entry (.pointer (some ⟨i,0,none⟩))).run Tryz.prog w2=.ok (.tuple #[.string (textOf y.2.name),.agg (bY y)]) w2:=hent
   simp only[bY]at hrun' DF
   clear hrun hent
   have hk:¬y.2.aO=q0.name:=HB.out y (hp.out y (by simp))
   have hse:=kY _ _ hk
   have hbn:=aj hbw2 (.cells (ae y.1 y.2) 47)
   have hsz:i<w2.heap.size:=hI2.lt
   have hel:e<w2.heap.size:=hI2.map.lt
   have yT:lq (w2.alloc (.cells (ae y.1 y.2) 47)) i e (lF E) (lF (L1++L2)):=by
    have:=hI2.at (w':=w2.alloc (.cells (ae y.1 y.2) 47)) (Below.heap_alloc _ _ _ hsz) (Below.heap_alloc _ _ _ hel)
    rw[show lF (L1++L2)=lF L1++lF L2 from List.map_append];exact this
   have hm1:=yT.oZ
   have hm0:=hI.out.oZ
   have HM:=Lib.hid (show oZ (w2.alloc (.cells (ae y.1 y.2) 47)) i<oZ wr i by rw[hm1,hm0];simp)
   have HI3:=Lib.hid yT
   have DI:=Lib.hid (show ∀x∈L1++L2,x∈E from fun x hx=>hp.out x (by
    rcases List.mem_append.1 hx with hx|hx
    ·exact List.mem_append.2 (.inl hx)
    ·exact List.mem_append.2 (.inr (List.mem_cons.2 (.inr hx)))))
   clear hm1 hm0 yT
   go_wp2_with fail
   go_roundw
   case rel=>exact⟨L1++L2,HI3,DI,hbn⟩
   case measure=>exact HM.out
end Go.Proofs.YtfieenjdcpjmgaaGreatDoor
namespace Go.WW
open Go.RowKit
end Go.WW
namespace Go.Proofs.YtfieenjdcpjmgaaGreatDoor
open Go.RowKit Go.WW
structure KS(V:World)(E:Nat)(r:aN)(f l:Int):Prop where
 e:V.heap[E]?=some (.cells (ae r (uZ f l)) 47)
 p:V.heap[E+1]?=some (.cells (aG (KF 3)) 50)
 d:bD V (fun k=>k≠E∧k<V.heap.size) (fun x=>bJ x r (uZ f l))
theorem KS.later{V V':World}{E:Nat}{r:aN}{f l:Int}(h:KS V E r f l)(hb:Below V.heap.size V V'):KS V' E r f l:=
 ⟨aJ hb h.e,aJ hb h.p,h.d.to (fun k hk=>hb.block k hk.2) (fun _ hk=>⟨hk.1,Nat.lt_of_lt_of_le hk.2 hb.size⟩)⟩
theorem KS.put{V V':World}{E:Nat}{r r':aN}{f l f' l':Int}{o:Obj}(h:KS V E r f l)(hb:Below V.heap.size V V')(hd:bD V' (fresh V.heap.size V') (fun x=>bJ x r' (uZ f' l'))):KS (putRow (V'.alloc o) E 0 (ae r' (uZ f' l'))) E r' f' l':=by
 have hE:E<V.heap.size:=(Array.getElem?_eq_some_iff.1 h.e).1
 have hE1:E+1<V.heap.size:=(Array.getElem?_eq_some_iff.1 h.p).1
 have hs:=hb.size
 have e1:(V'.alloc o).heap[E]?=some (.cells (ae r (uZ f l)) 47):=by rw[Below.heap_alloc _ _ _ (by omega)];exact aJ hb h.e
 refine⟨?_,?_,?_⟩
 ·rw[mD e1 (by simp[go_sem]),tq (by simp[go_sem])]
 ·rw[iD (by omega),Below.heap_alloc _ _ _ (by omega)];exact aJ hb h.p
 ·refine hd.to (fun k hk=>?_) (fun k hk=>⟨by have:=hk.1;omega,by rw[kG];have:=hk.2;simp;omega⟩)
  have h1:=hk.1
  have h2:=hk.2
  rw[iD (by omega),Below.heap_alloc _ _ _ h2]
theorem KS.DT{V:World}{E:Nat}{r:aN}{f l:Int}(h:KS V E r f l):bJ V r (uZ f l):=h.d.out
end Go.Proofs.YtfieenjdcpjmgaaGreatDoor
namespace Go.WW
open Go.RowKit
def ap0(w:World)(e:Ending)(w':World):Prop:=∃b,e=.returned (.bool b)∧Below w.heap.size w w'
def RP(l:List az)(w:World)(i:Nat)(cs:Array Value):Prop:=∃p s,l[i]?=some p∧cs=ai s p∧bz w s p
end Go.WW
namespace Go.Proofs.YtfieenjdcpjmgaaGreatDoor
open Go.RowKit Go.WW
end Go.Proofs.YtfieenjdcpjmgaaGreatDoor
namespace Go.WW
open Go.RowKit
def ap1(L:List ah)(d:Entry):ah:=if d.aO=⟨#[]⟩then lS else(L.find? fun x=>decide (x.name=d.aO)).getD lS
def ap2(PL:List ah)(X:List EE)(w:World)(z:Ending)(w':World):Prop:=Below w.heap.size w w'∧∃bl:Bool,z=.returned (.bool bl)∧(bl=true→PL.length≤4∧X.length≤6)
end Go.WW
namespace Go.Proofs.YtfieenjdcpjmgaaGreatDoor
open Go.RowKit Go.WW
theorem ajg(w:World):(jf 50 #[]).run Tryz.prog w=.ok (.value (.agg (aG lS))) w:=by kernel_rfl
attribute [go_sem] ajg
end Go.Proofs.YtfieenjdcpjmgaaGreatDoor
namespace Go.WW
open Go.RowKit
theorem jJ.wide{S S':Nat→Prop}{w w':World}{Φ:World→Prop}(h:jJ S w Φ)(hb:Below w.heap.size w w')(hS:∀k,S' k→S k∨w.heap.size≤k):jJ S' w' Φ:=
 fun y hy=>h y ⟨hy.os.trans hb.os,hy.tape.trans hb.tape,hy.output.trans hb.output,Nat.le_trans hb.size hy.size,fun k hk hn=>(hy.block k (Nat.lt_of_lt_of_le hk hb.size) fun hs=>by
  rcases hS k hs with h1|h1
  ·exact hn h1
  ·omega).trans (hb.block k hk)⟩
theorem iE.wide{S S':Nat→Prop}{es ps:Sl}{D:Db}{X:List EE}{w w':World}(h:iE S es ps D X w)(hb:Below w.heap.size w w')(hS:∀k,S' k→S k∨w.heap.size≤k):iE S' es ps D X w':=⟨h.dK.wide hb hS,h.dQ.wide hb hS,h.cap⟩
theorem Wv{P:Program}{fn:Func}{a t c:Tmp}{T:TypeId}{d:TypeDesc}{n:Nat}(hf:fn.results=#[.tmp a,.cell t T,.tmp c])(hu:P.underlying T=some d)(hd:d.isRow=true)(hi:(P.info? T).map (·.size)=some n){tmps:Array Value}{w:World}{b o:Nat}{cs:Array Value}(ha:tmps.getD t undef=.pointer (some ⟨b,o,none⟩))(h:row? w b o n=some cs) :
  (results fn tmps).run P w=.ok (.tuple #[tmps.getD a undef,.agg cs,tmps.getD c undef]) w:=by
 have hl:=run_loadVar_row hu hd hi h
 have ha':(asAddr (tmps.getD t undef)).run P w=.ok ⟨b,o,none⟩ w:=by rw[ha];rfl
 rw[Array.getD_eq_getD_getElem?]at ha'
 unfold results
 rw[hf]
 simp[Sem.run_bind,ha',hl,Result.andThen]
abbrev bg:ByteArray:=⟨#[82]⟩
theorem lG:¬bg=⟨#[]⟩:=by intro h;have:=congrArg ByteArray.size h;simp[ByteArray.size]at this
theorem AQ:iC bg=true:=by decide +kernel
def iY:Db:=⟨⟨#[]⟩,0,[],[]⟩
def eu(re:ByteArray):Db:=⟨re,0,[],[]⟩
abbrev aW:Sl:=⟨Option.none,0⟩
theorem Hy:au aW aW iY=#[.string ⟨#[]⟩,.int .i64 0,.slice Option.none 0 0,.slice Option.none 0 0]:=rfl
theorem Me:fJ (eu bg) [] [] [] []:=⟨rfl,fun k o=>by simp,gW.nil,List.Perm.refl _,List.Pairwise.nil,mO.nil,by simp⟩
end Go.WW
namespace Go.Proofs.YtfieenjdcpjmgaaGreatDoor
open Go.RowKit Go.WW
theorem ajh(ρ:Operand→Value)(dst:Option Tmp)(x:Operand)(ty:TypeId)(pos:String)(after:Array Edge)(guard:Option (Nat×Bool)) :
  execOp ρ {dst,op:=.build 32 #[(0,x)],type:=ty,pos,after,guard}=jf 32 #[(0,ρ x)]:=by simp[execOp,jf]
theorem aji(re:ByteArray)(w:World):(jf 32 #[(0,.string re)]).run Tryz.prog w=.ok (.value (.agg (au aW aW (eu re)))) w:=by kernel_rfl
attribute [go_sem] aji
attribute [go_sem ↓] ajh
theorem Wx(re:ByteArray)(w:World)(hs:re.size≤lim)(hok:iC re=true):Calls Tryz.prog 8 #[.string re] w fun z w'=>z=.returned (.tuple #[.agg (au aW aW (eu re)),.int .i64 0])∧Below w.heap.size w w':=by
 have hz3:aQ (w.alloc (.cells (au aW aW iY) 32)) w.heap.size 0 4=true:=by simp[go_sem]
 have hB:Below w.heap.size w (w.alloc (.cells (au aW aW iY) 32)):=aj (Below.refl _ _) _
 have hR:=QI re (w.alloc (.cells (au aW aW iY) 32)) hs
 rw[hok]at hR
 rw[Hy]at hz3 hB hR
 have HR:=Lib.hid hR
 clear hok hs hR
 go_enter Tryz.func8,Tryz.ntmps8
 go_wp2_with fail
 refine HR.out.mono ?_
 rintro z w' ⟨rfl,rfl⟩
 dsimp only
 go_wp2_with fail
 have hrow:row? (w.alloc (.cells (au aW aW (eu re)) 32)) w.heap.size 0 4=some (au aW aW (eu re)):=by rw[BQ rfl];exact dm (jH _ _ _)
 exact bodyPost_ret (kQ (by rfl) Tryz.underlying32 rfl (by kernel_rfl) rfl hrow) rfl ⟨rfl,aj (Below.refl _ _) _⟩
end Go.Proofs.YtfieenjdcpjmgaaGreatDoor
