/- A part of the proof. -/
import Derived.Test.YtfieenjdcpjmgaaGreatDoorB17
import Derived.Test.YtfieenjdcpjmgaaGreatDoorB19
import Derived.Test.YtfieenjdcpjmgaaGreatDoorB12
import Derived.Test.YtfieenjdcpjmgaaGreatDoorB18
set_option maxRecDepth 100000
set_option maxHeartbeats 2000000
namespace Go.Proofs.YtfieenjdcpjmgaaGreatDoor
open Go.RowKit Go.WW
attribute [local irreducible] aH
theorem ajC(b n e p:Nat)(re:ByteArray)(s:Int)(N:List (ByteArray×Value))(E:List EE)(P:List ai)(t:Sl)(q:az)(w:World)(h:bU w b n e p re s N E P)(hre:¬re=⟨#[]⟩)(hq:bn w t q)(hno:∀x∈E,textOf x.2.name≠dQ q) :
  Calls Tryz.prog 28 #[.pointer (some ⟨b,0,none⟩),.agg (ah t q)] w fun z w'=>z=.returned (.int .i64 9)∧Below w.heap.size w w':=by
 have hB:Below w.heap.size w (w.alloc (.cells (ah t q) 40)):=(Below.refl _ _).alloc (Nat.le_refl _) _
 have hx3:(w.alloc (.cells (ah t q) 40)).heap[w.heap.size]?=some (.cells (ah t q) 40):=World.alloc_heap_new _ _
 have h':=h.later hB
 have hq':=hq.later hB
 go_enter Tryz.func28,Tryz.ntmps28
 go_wp2_with fail
 generalize (w.alloc (.cells (ah t q) 40))=W at *
 obtain⟨c0,c1,c2,c3,c4,f1,hl⟩:=dO h'.box
 have l0:w.heap.size<W.heap.size:=(Array.getElem?_eq_some_iff.1 hx3).1
 have iJ:row? W w.heap.size 0 2=some (ah t q):=by rw[bQ hx3];exact df (by simp[go_sem])
 refine(jo _ _ _ c0 hre).mono ?_
 rintro x w' ⟨rfl,rfl⟩
 dsimp only
 have hlk:∀x:Later W,(Instr.lookup 85 (.map (some e)) (.string (dQ q)) true).run Tryz.prog x.w=.ok (.tuple #[.agg (ae aW aQ),.bool false]) x.w:=fun x=>AX (h'.em.at (x.b.block e h'.em.lt)) _ hno
 go_wp2_with fail
 refine vF 11 6 [0,1,2,3,4,5,11,6,7,8,9,10,12,13] (Below.refl _ W) (by kernel_rfl) (by kernel_rfl) (by rfl) ?_ ?_
 ·intro v1 hv1
  iterate 6 (refine aP (by kernel_rfl) (by kernel_rfl) (fun K hK=>?_);go_big_quiet_op;refine hK _ ?_;clear hK K)
  refine aU (by rfl) (by rfl) (fun K hK=>?_)
  go_wp2_with fail
  refine(kT _ _ v1 (hq'.later hv1)).mono ?_
  rintro z v2 ⟨rfl,hv2⟩
  dsimp only
  have aV:=ag hv1 hv2
  refine hK _ _ (aA aV) ?_
  clear hK K
  iterate 4 (refine aP (by kernel_rfl) (by kernel_rfl) (fun K hK=>?_);go_big_quiet_op;refine hK _ ?_;clear hK K)
  refine aU (by rfl) (by rfl) (fun K hK=>?_)
  go_wp2_with fail
  refine hK _ _ (aA (aj aV _)) ?_
  clear hK K
  refine aU (by rfl) (by rfl) (fun K hK=>?_)
  go_wp2_with fail
  refine hK _ _ (aA (aj aV (.cells (ae aW aQ) 47))) ?_
  clear hK K
  iterate 1 (refine aP (by kernel_rfl) (by kernel_rfl) (fun K hK=>?_);go_big_quiet_op;refine hK _ ?_;clear hK K)
  refine bV ?_
  have cO:=aj aV (.cells (ae aW aQ) 47)
  clear hlk hv1 hv2 aV
  generalize (v2.alloc (.cells (ae aW aQ) 47))=V5 at *
  go_wp2_with fail
  go_ret
  exact⟨rfl,ag hB cO⟩
 ·intro v1 hv1
  simp only[pick,List.getElem?_cons_zero,List.getElem?_cons_succ]
  iterate 6 (refine aP (by kernel_rfl) (by kernel_rfl) (fun K hK=>?_);go_big_quiet_op;refine hK _ ?_;clear hK K)
  refine aU (by rfl) (by rfl) (fun K hK=>?_)
  go_wp2_with fail
  refine hK _ _ (aA (aj hv1 _)) ?_
  clear hK K
  rw[←nN]
  have hz1:=World.alloc_heap_new v1 (.cells (ae aW aQ) 47)
  have eP:=aj hv1 (.cells (ae aW aQ) 47)
  generalize v1.alloc (.cells (ae aW aQ) 47)=Z at *
  refine aU (by rfl) (by rfl) (fun K hK=>?_)
  go_wp2_with fail
  refine(kT _ _ _ (hq'.later eP)).mono ?_
  rintro z v2 ⟨rfl,hv2⟩
  dsimp only
  have aV:=ag eP hv2
  refine hK _ _ (aA aV) ?_
  clear hK K
  have hz2:=aJ hv2 hz1
  have hcp:aS v2 v1.heap.size 0 17=true:=lY hz2 (by simp[go_sem])
  have cO:=Go.WW.Below.putRow (o:=0) (cs:=ae aW aQ) aV hv1.size
  iterate 4 (refine aP (by kernel_rfl) (by kernel_rfl) (fun K hK=>?_);go_big_quiet_op;refine hK _ ?_;clear hK K)
  refine aU (by rfl) (by rfl) (fun K hK=>?_)
  go_wp2_with fail
  refine hK _ _ (aA cO) ?_
  clear hK K
  iterate 1 (refine aP (by kernel_rfl) (by kernel_rfl) (fun K hK=>?_);go_big_quiet_op;refine hK _ ?_;clear hK K)
  refine bV ?_
  clear hlk hv2 aV hz1 hz2 hcp eP
  generalize (putRow v2 v1.heap.size 0 (ae aW aQ))=V5 at *
  go_wp2_with fail
  go_ret
  exact⟨rfl,ag hB cO⟩
theorem ajD(b n e p:Nat)(re:ByteArray)(s:Int)(N:List (ByteArray×Value))(E:List EE)(P:List ai)(t:Sl)(q:az)(w:World)(h:bU w b n e p re s N E P)(hre:¬re=⟨#[]⟩)(hq:bn w t q)(hE:∀x∈E,mg (aZ b n e p) w x∧AV x.2)(hs0:0≤s)(hs1:s<1000000)(x0:EE)(hx0:x0∈E)(Ba:textOf x0.2.name=dQ q) :
  Calls Tryz.prog 28 #[.pointer (some ⟨b,0,none⟩),.agg (ah t q)] w fun z w'=>z=.returned (.int .i64 0)∧But (aZ b n e p) w w'∧bU w' b n e p re (s+1) (rG N (x0.2.name::x0.2.aliases)) (ql E (dQ q)) P:=by
 have hR:tY N E (dQ q) (rG N (x0.2.name::x0.2.aliases)) (ql E (dQ q)):=.inl ⟨x0,hx0,Ba,rfl,rfl⟩
 have hB:Below w.heap.size w (w.alloc (.cells (ah t q) 40)):=(Below.refl _ _).alloc (Nat.le_refl _) _
 have hx3:(w.alloc (.cells (ah t q) 40)).heap[w.heap.size]?=some (.cells (ah t q) 40):=World.alloc_heap_new _ _
 have h':=h.later hB
 have hq':=hq.later hB
 go_enter Tryz.func28,Tryz.ntmps28
 go_wp2_with fail
 generalize (w.alloc (.cells (ah t q) 40))=W at *
 obtain⟨c0,c1,c2,c3,c4,f1,hl⟩:=dO h'.box
 have l0:w.heap.size<W.heap.size:=(Array.getElem?_eq_some_iff.1 hx3).1
 have iJ:row? W w.heap.size 0 2=some (ah t q):=by rw[bQ hx3];exact df (by simp[go_sem])
 refine(jo _ _ _ c0 hre).mono ?_
 rintro x w' ⟨rfl,rfl⟩
 dsimp only
 have hlk:∀x:Later W,(Instr.lookup 85 (.map (some e)) (.string (dQ q)) true).run Tryz.prog x.w=.ok (.tuple #[.agg (ae x0.1 x0.2),.bool true]) x.w:=fun x=>Ba▸AQ (h'.em.at (x.b.block e h'.em.lt)) x0 hx0
 go_wp2_with fail
 refine vF 11 6 [0,1,2,3,4,5,11,6,7,8,9,10,12,13] (Below.refl _ W) (by kernel_rfl) (by kernel_rfl) (by rfl) ?_ ?_
 ·intro v1 hv1
  iterate 6 (refine aP (by kernel_rfl) (by kernel_rfl) (fun K hK=>?_);go_big_quiet_op;refine hK _ ?_;clear hK K)
  refine aU (by rfl) (by rfl) (fun K hK=>?_)
  go_wp2_with fail
  refine(kT _ _ v1 (hq'.later hv1)).mono ?_
  rintro z v2 ⟨rfl,hv2⟩
  dsimp only
  have aV:=ag hv1 hv2
  refine hK _ _ (aA aV) ?_
  clear hK K
  iterate 4 (refine aP (by kernel_rfl) (by kernel_rfl) (fun K hK=>?_);go_big_quiet_op;refine hK _ ?_;clear hK K)
  refine aU (by rfl) (by rfl) (fun K hK=>?_)
  go_wp2_with fail
  refine hK _ _ (aA (aj aV _)) ?_
  clear hK K
  refine aU (by rfl) (by rfl) (fun K hK=>?_)
  go_wp2_with fail
  refine hK _ _ (aA (aj aV (.cells (ae x0.1 x0.2) 47))) ?_
  clear hK K
  iterate 1 (refine aP (by kernel_rfl) (by kernel_rfl) (fun K hK=>?_);go_big_quiet_op;refine hK _ ?_;clear hK K)
  refine bV ?_
  have cO:=aj aV (.cells (ae x0.1 x0.2) 47)
  clear hlk hv1 hv2 aV
  generalize (v2.alloc (.cells (ae x0.1 x0.2) 47))=V5 at *
  have mW:=ag hB cO
  have h5:=h'.later cO
  have hx5:=aJ cO hx3
  clear c0 c1 c2 c3 c4 f1 hl iJ l0
  have l0:w.heap.size<V5.heap.size:=(Array.getElem?_eq_some_iff.1 hx5).1
  have iJ:row? V5 w.heap.size 0 2=some (ah t q):=by rw[bQ hx5];exact df (by simp[go_sem])
  have n0:=pq h w.heap.size (Nat.le_refl _)
  go_wp2_with fail
  refine oZ (aZ b n e p) (But.refl _ V5) (by kernel_rfl) (by kernel_rfl) ?_
  iterate 4 (refine aP (by kernel_rfl) (by kernel_rfl) (fun K hK=>?_);go_big_quiet_op;refine hK _ ?_;clear hK K)
  refine aU (by rfl) (by rfl) (fun K hK=>?_)
  go_wp2_with fail
  refine(kT _ _ V5.drew ((hq'.later cO).later (Below.refl _ _).drew)).mono ?_
  rintro z V6 ⟨rfl,hb6⟩
  dsimp only
  have lJ:Below V5.heap.size V5 V6:=(Below.refl _ V5).drew.trans hb6
  refine hK _ _ (dw (But.of_below lJ)) ?_
  clear hK K
  refine aU (by rfl) (by rfl) (fun K hK=>?_)
  go_wp2_with fail
  have mX:=ag mW lJ
  refine(LY b n e p re s N _ E _ P _ V6 (h.later mX) (fun x hx=>⟨(hE x hx).1.on (But.of_below mX),(hE x hx).2⟩) hR).mono ?_
  rintro z V7 ⟨rfl,hb7,h7⟩
  dsimp only
  have ku:But (aZ b n e p) V5 V7:=(But.of_below lJ).trans hb7
  refine hK _ _ (dw ku) ?_
  clear hK K
  refine bV ?_
  have kR:But (aZ b n e p) w V7:=(But.of_below mW).trans ku
  obtain⟨c0,c1,c2,c3,c4,f1,hl⟩:=dO h7.box
  go_wp2_with fail
  refine(wX b s V7 c1 f1 hs0 hs1).mono ?_
  rintro z w' ⟨rfl,rfl⟩
  dsimp only
  have lL:=dI (o:=1) (.int .i64 (s+1)) h7.box
  rw[uY]at lL
  have hoth:∀k,k≠b→(V7.setCell ⟨b,1,none⟩ (.int .i64 (s+1))).heap[k]?=V7.heap[k]?:=fun k hk=>Below.heap_setCell _ _ _ _ hk
  have yP:(V7.setCell ⟨b,1,none⟩ (.int .i64 (s+1))).heap.size=V7.heap.size:=by simp[World.setCell]
  have rJ:But (aZ b n e p) w (V7.setCell ⟨b,1,none⟩ (.int .i64 (s+1))):=⟨kR.os,kR.tape,kR.output,by rw[yP];exact kR.size,fun k hk hn'=>(hoth k (fun e'=>hn' (.inl e'))).trans (kR.block k hk hn')⟩
  have hnb:n≠b:=fun e'=>fM h7.box h7.nm e'.symm
  have heb:e≠b:=fun e'=>fM h7.box h7.em e'.symm
  have hpb:p≠b:=fun e'=>fM h7.box h7.pm e'.symm
  have h8:=bU.mk lL (h7.nm.at (hoth n hnb)) (h7.em.at (hoth e heb)) (h7.pm.at (hoth p hpb)) h.ne
  go_wp2_with fail
  go_ret
  exact⟨rfl,rJ,h8⟩
 ·intro v1 hv1
  simp only[pick,List.getElem?_cons_zero,List.getElem?_cons_succ]
  iterate 6 (refine aP (by kernel_rfl) (by kernel_rfl) (fun K hK=>?_);go_big_quiet_op;refine hK _ ?_;clear hK K)
  refine aU (by rfl) (by rfl) (fun K hK=>?_)
  go_wp2_with fail
  refine hK _ _ (aA (aj hv1 _)) ?_
  clear hK K
  rw[←nN]
  have hz1:=World.alloc_heap_new v1 (.cells (ae aW aQ) 47)
  have eP:=aj hv1 (.cells (ae aW aQ) 47)
  generalize v1.alloc (.cells (ae aW aQ) 47)=Z at *
  refine aU (by rfl) (by rfl) (fun K hK=>?_)
  go_wp2_with fail
  refine(kT _ _ _ (hq'.later eP)).mono ?_
  rintro z v2 ⟨rfl,hv2⟩
  dsimp only
  have aV:=ag eP hv2
  refine hK _ _ (aA aV) ?_
  clear hK K
  have hz2:=aJ hv2 hz1
  have hcp:aS v2 v1.heap.size 0 17=true:=lY hz2 (by simp[go_sem])
  have cO:=Go.WW.Below.putRow (o:=0) (cs:=ae x0.1 x0.2) aV hv1.size
  iterate 4 (refine aP (by kernel_rfl) (by kernel_rfl) (fun K hK=>?_);go_big_quiet_op;refine hK _ ?_;clear hK K)
  refine aU (by rfl) (by rfl) (fun K hK=>?_)
  go_wp2_with fail
  refine hK _ _ (aA cO) ?_
  clear hK K
  iterate 1 (refine aP (by kernel_rfl) (by kernel_rfl) (fun K hK=>?_);go_big_quiet_op;refine hK _ ?_;clear hK K)
  refine bV ?_
  clear hlk hv2 aV hz1 hz2 hcp eP
  generalize (putRow v2 v1.heap.size 0 (ae x0.1 x0.2))=V5 at *
  have mW:=ag hB cO
  have h5:=h'.later cO
  have hx5:=aJ cO hx3
  clear c0 c1 c2 c3 c4 f1 hl iJ l0
  have l0:w.heap.size<V5.heap.size:=(Array.getElem?_eq_some_iff.1 hx5).1
  have iJ:row? V5 w.heap.size 0 2=some (ah t q):=by rw[bQ hx5];exact df (by simp[go_sem])
  have n0:=pq h w.heap.size (Nat.le_refl _)
  go_wp2_with fail
  refine oZ (aZ b n e p) (But.refl _ V5) (by kernel_rfl) (by kernel_rfl) ?_
  iterate 4 (refine aP (by kernel_rfl) (by kernel_rfl) (fun K hK=>?_);go_big_quiet_op;refine hK _ ?_;clear hK K)
  refine aU (by rfl) (by rfl) (fun K hK=>?_)
  go_wp2_with fail
  refine(kT _ _ V5.drew ((hq'.later cO).later (Below.refl _ _).drew)).mono ?_
  rintro z V6 ⟨rfl,hb6⟩
  dsimp only
  have lJ:Below V5.heap.size V5 V6:=(Below.refl _ V5).drew.trans hb6
  refine hK _ _ (dw (But.of_below lJ)) ?_
  clear hK K
  refine aU (by rfl) (by rfl) (fun K hK=>?_)
  go_wp2_with fail
  have mX:=ag mW lJ
  refine(LY b n e p re s N _ E _ P _ V6 (h.later mX) (fun x hx=>⟨(hE x hx).1.on (But.of_below mX),(hE x hx).2⟩) hR).mono ?_
  rintro z V7 ⟨rfl,hb7,h7⟩
  dsimp only
  have ku:But (aZ b n e p) V5 V7:=(But.of_below lJ).trans hb7
  refine hK _ _ (dw ku) ?_
  clear hK K
  refine bV ?_
  have kR:But (aZ b n e p) w V7:=(But.of_below mW).trans ku
  obtain⟨c0,c1,c2,c3,c4,f1,hl⟩:=dO h7.box
  go_wp2_with fail
  refine(wX b s V7 c1 f1 hs0 hs1).mono ?_
  rintro z w' ⟨rfl,rfl⟩
  dsimp only
  have lL:=dI (o:=1) (.int .i64 (s+1)) h7.box
  rw[uY]at lL
  have hoth:∀k,k≠b→(V7.setCell ⟨b,1,none⟩ (.int .i64 (s+1))).heap[k]?=V7.heap[k]?:=fun k hk=>Below.heap_setCell _ _ _ _ hk
  have yP:(V7.setCell ⟨b,1,none⟩ (.int .i64 (s+1))).heap.size=V7.heap.size:=by simp[World.setCell]
  have rJ:But (aZ b n e p) w (V7.setCell ⟨b,1,none⟩ (.int .i64 (s+1))):=⟨kR.os,kR.tape,kR.output,by rw[yP];exact kR.size,fun k hk hn'=>(hoth k (fun e'=>hn' (.inl e'))).trans (kR.block k hk hn')⟩
  have hnb:n≠b:=fun e'=>fM h7.box h7.nm e'.symm
  have heb:e≠b:=fun e'=>fM h7.box h7.em e'.symm
  have hpb:p≠b:=fun e'=>fM h7.box h7.pm e'.symm
  have h8:=bU.mk lL (h7.nm.at (hoth n hnb)) (h7.em.at (hoth e heb)) (h7.pm.at (hoth p hpb)) h.ne
  go_wp2_with fail
  go_ret
  exact⟨rfl,rJ,h8⟩
end Go.Proofs.YtfieenjdcpjmgaaGreatDoor
namespace Go.WW
open Go.RowKit
theorem WH(r:aN)(d:Entry)(f a b:Int):(((ae r d).setIfInBounds 11 (.int .i64 f)).setIfInBounds 12 (.int .i64 a)).setIfInBounds 13 (.int .i64 b)=ae r (touched d f a b):=by kernel_rfl
theorem Bc{S:Nat→Prop}{W w:World}{b o:Nat}{v:Value}(h:But S W w)(hb:S b∨W.heap.size≤b):But S W (w.setCell ⟨b,o,none⟩ v):=
 ⟨h.os,h.tape,h.output,by have:=h.size;simpa[World.setCell]using this,fun k hk hn=>(Below.heap_setCell _ _ _ _ (show k≠b by rintro rfl;rcases hb with hb|hb;exact hn hb;omega)).trans (h.block k hk hn)⟩
end Go.WW
namespace Go.Proofs.YtfieenjdcpjmgaaGreatDoor
open Go.RowKit Go.WW
attribute [local irreducible] aH
theorem ajE(b n e p:Nat)(re:ByteArray)(s:Int)(N:List (ByteArray×Value))(E:List EE)(P:List ai)(t:Sl)(q:az)(f la su:Int)(w:World)(h:bU w b n e p re s N E P)(hre:¬re=⟨#[]⟩)(hv:kC f la su=false) :
  Calls Tryz.prog 37 #[.pointer (some ⟨b,0,none⟩),.agg (ah t q),.int .i64 f,.int .i64 la,.int .i64 su] w fun z w'=>z=.returned (.int .i64 2)∧Below w.heap.size w w':=by
 have hB:Below w.heap.size w (w.alloc (.cells (ah t q) 40)):=(Below.refl _ _).alloc (Nat.le_refl _) _
 have hx3:(w.alloc (.cells (ah t q) 40)).heap[w.heap.size]?=some (.cells (ah t q) 40):=World.alloc_heap_new _ _
 have h':=h.later hB
 go_enter Tryz.func37,Tryz.ntmps37
 go_wp2_with fail
 generalize (w.alloc (.cells (ah t q) 40))=W at *
 obtain⟨c0,c1,c2,c3,c4,f1,hl⟩:=dO h'.box
 have l0:w.heap.size<W.heap.size:=(Array.getElem?_eq_some_iff.1 hx3).1
 have iJ:row? W w.heap.size 0 2=some (ah t q):=by rw[bQ hx3];exact df (by simp[go_sem])
 refine(jo _ _ _ c0 hre).mono ?_
 rintro x w' ⟨rfl,rfl⟩
 dsimp only
 have hcs:f<0∨(¬f<0∧65535<f)∨(¬f<0∧¬65535<f∧la<0)∨(¬f<0∧¬65535<f∧¬la<0∧1099511627776<la)∨(¬f<0∧¬65535<f∧¬la<0∧¬1099511627776<la∧su<0)∨(¬f<0∧¬65535<f∧¬la<0∧¬1099511627776<la∧¬su<0∧1099511627776<su):=by
  simp only[kC,aF,Bool.and_eq_false_iff,decide_eq_false_iff_not]at hv
  omega
 rcases hcs with h1|⟨h1,h2⟩|⟨h1,h2,h3⟩|⟨h1,h2,h3,h4⟩|⟨h1,h2,h3,h4,h5⟩|⟨h1,h2,h3,h4,h5,h6⟩
 all_goals (
  go_wp2_with fail
  go_ret
  exact⟨rfl,hB⟩)
theorem ajF(b n e p:Nat)(re:ByteArray)(s:Int)(N:List (ByteArray×Value))(E:List EE)(P:List ai)(t:Sl)(q:az)(f la su:Int)(w:World)(h:bU w b n e p re s N E P)(hre:¬re=⟨#[]⟩)(hq:bn w t q)(hv:kC f la su=true)(hno:∀x∈E,textOf x.2.name≠dQ q) :
  Calls Tryz.prog 37 #[.pointer (some ⟨b,0,none⟩),.agg (ah t q),.int .i64 f,.int .i64 la,.int .i64 su] w fun z w'=>z=.returned (.int .i64 9)∧Below w.heap.size w w':=by
 have hB:Below w.heap.size w (w.alloc (.cells (ah t q) 40)):=(Below.refl _ _).alloc (Nat.le_refl _) _
 have hx3:(w.alloc (.cells (ah t q) 40)).heap[w.heap.size]?=some (.cells (ah t q) 40):=World.alloc_heap_new _ _
 have h':=h.later hB
 have hq':=hq.later hB
 go_enter Tryz.func37,Tryz.ntmps37
 go_wp2_with fail
 generalize (w.alloc (.cells (ah t q) 40))=W at *
 obtain⟨c0,c1,c2,c3,c4,f1,hl⟩:=dO h'.box
 have l0:w.heap.size<W.heap.size:=(Array.getElem?_eq_some_iff.1 hx3).1
 have iJ:row? W w.heap.size 0 2=some (ah t q):=by rw[bQ hx3];exact df (by simp[go_sem])
 refine(jo _ _ _ c0 hre).mono ?_
 rintro x w' ⟨rfl,rfl⟩
 dsimp only
 obtain⟨t1,t2,t3,t4,t5,t6⟩:¬f<0∧¬65535<f∧¬la<0∧¬1099511627776<la∧¬su<0∧¬1099511627776<su:=by
  simp only[kC,aF,Bool.and_eq_true,decide_eq_true_eq]at hv
  omega
 have hlk:∀x:Later W,(Instr.lookup 85 (.map (some e)) (.string (dQ q)) true).run Tryz.prog x.w=.ok (.tuple #[.agg (ae aW aQ),.bool false]) x.w:=fun x=>AX (h'.em.at (x.b.block e h'.em.lt)) _ hno
 go_wp2_with fail
 refine vF 11 6 [0,1,2,3,4,5,11,6,7,8,9,10,12,13] (Below.refl _ W) (by kernel_rfl) (by kernel_rfl) (by rfl) ?_ ?_
 ·intro v1 hv1
  iterate 6 (refine aP (by kernel_rfl) (by kernel_rfl) (fun K hK=>?_);go_big_quiet_op;refine hK _ ?_;clear hK K)
  refine aU (by rfl) (by rfl) (fun K hK=>?_)
  go_wp2_with fail
  refine(kT _ _ v1 (hq'.later hv1)).mono ?_
  rintro z v2 ⟨rfl,hv2⟩
  dsimp only
  have aV:=ag hv1 hv2
  refine hK _ _ (aA aV) ?_
  clear hK K
  iterate 4 (refine aP (by kernel_rfl) (by kernel_rfl) (fun K hK=>?_);go_big_quiet_op;refine hK _ ?_;clear hK K)
  refine aU (by rfl) (by rfl) (fun K hK=>?_)
  go_wp2_with fail
  refine hK _ _ (aA (aj aV _)) ?_
  clear hK K
  refine aU (by rfl) (by rfl) (fun K hK=>?_)
  go_wp2_with fail
  refine hK _ _ (aA (aj aV (.cells (ae aW aQ) 47))) ?_
  clear hK K
  iterate 1 (refine aP (by kernel_rfl) (by kernel_rfl) (fun K hK=>?_);go_big_quiet_op;refine hK _ ?_;clear hK K)
  refine bV ?_
  have cO:=aj aV (.cells (ae aW aQ) 47)
  have hbx:=World.alloc_heap_new v2 (.cells (ae aW aQ) 47)
  have iY:W.heap.size≤v2.heap.size:=aV.size
  clear hlk hv1 hv2 aV
  generalize (v2.alloc (.cells (ae aW aQ) 47))=V5 at *
  generalize v2.heap.size=bx at *
  go_wp2_with fail
  go_ret
  exact⟨rfl,ag hB cO⟩
 ·intro v1 hv1
  simp only[pick,List.getElem?_cons_zero,List.getElem?_cons_succ]
  iterate 6 (refine aP (by kernel_rfl) (by kernel_rfl) (fun K hK=>?_);go_big_quiet_op;refine hK _ ?_;clear hK K)
  refine aU (by rfl) (by rfl) (fun K hK=>?_)
  go_wp2_with fail
  refine hK _ _ (aA (aj hv1 _)) ?_
  clear hK K
  rw[←nN]
  have hz1:=World.alloc_heap_new v1 (.cells (ae aW aQ) 47)
  have eP:=aj hv1 (.cells (ae aW aQ) 47)
  generalize v1.alloc (.cells (ae aW aQ) 47)=Z at *
  refine aU (by rfl) (by rfl) (fun K hK=>?_)
  go_wp2_with fail
  refine(kT _ _ _ (hq'.later eP)).mono ?_
  rintro z v2 ⟨rfl,hv2⟩
  dsimp only
  have aV:=ag eP hv2
  refine hK _ _ (aA aV) ?_
  clear hK K
  have hz2:=aJ hv2 hz1
  have hcp:aS v2 v1.heap.size 0 17=true:=lY hz2 (by simp[go_sem])
  have cO:=Go.WW.Below.putRow (o:=0) (cs:=ae aW aQ) aV hv1.size
  iterate 4 (refine aP (by kernel_rfl) (by kernel_rfl) (fun K hK=>?_);go_big_quiet_op;refine hK _ ?_;clear hK K)
  refine aU (by rfl) (by rfl) (fun K hK=>?_)
  go_wp2_with fail
  refine hK _ _ (aA cO) ?_
  clear hK K
  iterate 1 (refine aP (by kernel_rfl) (by kernel_rfl) (fun K hK=>?_);go_big_quiet_op;refine hK _ ?_;clear hK K)
  refine bV ?_
  have hbx:=kM (o:=0) (cs:=ae aW aQ) hz2 (by simp[go_sem])
  rw[nZ (by simp[go_sem])]at hbx
  have iY:W.heap.size≤v1.heap.size:=hv1.size
  clear hlk hv2 aV hz1 hz2 hcp eP
  generalize (putRow v2 v1.heap.size 0 (ae aW aQ))=V5 at *
  generalize v1.heap.size=bx at *
  go_wp2_with fail
  go_ret
  exact⟨rfl,ag hB cO⟩
theorem ajG(b n e p:Nat)(re:ByteArray)(s:Int)(N:List (ByteArray×Value))(E:List EE)(P:List ai)(t:Sl)(q:az)(f la su:Int)(w:World)(h:bU w b n e p re s N E P)(hre:¬re=⟨#[]⟩)(hq:bn w t q)(hv:kC f la su=true)(hg:gY (E.map (·.2)))(hs0:0≤s)(hs1:s<1000000)(x0:EE)(hx0:x0∈E)(Ba:textOf x0.2.name=dQ q) :
  Calls Tryz.prog 37 #[.pointer (some ⟨b,0,none⟩),.agg (ah t q),.int .i64 f,.int .i64 la,.int .i64 su] w fun z w'=>z=.returned (.int .i64 0)∧But (aZ b n e p) w w'∧bU w' b n e p re (s+1) N (E.map (um (dQ q) f la su)) P:=by
 have hB:Below w.heap.size w (w.alloc (.cells (ah t q) 40)):=(Below.refl _ _).alloc (Nat.le_refl _) _
 have hx3:(w.alloc (.cells (ah t q) 40)).heap[w.heap.size]?=some (.cells (ah t q) 40):=World.alloc_heap_new _ _
 have h':=h.later hB
 have hq':=hq.later hB
 go_enter Tryz.func37,Tryz.ntmps37
 go_wp2_with fail
 generalize (w.alloc (.cells (ah t q) 40))=W at *
 obtain⟨c0,c1,c2,c3,c4,f1,hl⟩:=dO h'.box
 have l0:w.heap.size<W.heap.size:=(Array.getElem?_eq_some_iff.1 hx3).1
 have iJ:row? W w.heap.size 0 2=some (ah t q):=by rw[bQ hx3];exact df (by simp[go_sem])
 refine(jo _ _ _ c0 hre).mono ?_
 rintro x w' ⟨rfl,rfl⟩
 dsimp only
 obtain⟨t1,t2,t3,t4,t5,t6⟩:¬f<0∧¬65535<f∧¬la<0∧¬1099511627776<la∧¬su<0∧¬1099511627776<su:=by
  simp only[kC,aF,Bool.and_eq_true,decide_eq_true_eq]at hv
  omega
 have hlk:∀x:Later W,(Instr.lookup 85 (.map (some e)) (.string (dQ q)) true).run Tryz.prog x.w=.ok (.tuple #[.agg (ae x0.1 x0.2),.bool true]) x.w:=fun x=>Ba▸AQ (h'.em.at (x.b.block e h'.em.lt)) x0 hx0
 go_wp2_with fail
 refine vF 11 6 [0,1,2,3,4,5,11,6,7,8,9,10,12,13] (Below.refl _ W) (by kernel_rfl) (by kernel_rfl) (by rfl) ?_ ?_
 ·intro v1 hv1
  iterate 6 (refine aP (by kernel_rfl) (by kernel_rfl) (fun K hK=>?_);go_big_quiet_op;refine hK _ ?_;clear hK K)
  refine aU (by rfl) (by rfl) (fun K hK=>?_)
  go_wp2_with fail
  refine(kT _ _ v1 (hq'.later hv1)).mono ?_
  rintro z v2 ⟨rfl,hv2⟩
  dsimp only
  have aV:=ag hv1 hv2
  refine hK _ _ (aA aV) ?_
  clear hK K
  iterate 4 (refine aP (by kernel_rfl) (by kernel_rfl) (fun K hK=>?_);go_big_quiet_op;refine hK _ ?_;clear hK K)
  refine aU (by rfl) (by rfl) (fun K hK=>?_)
  go_wp2_with fail
  refine hK _ _ (aA (aj aV _)) ?_
  clear hK K
  refine aU (by rfl) (by rfl) (fun K hK=>?_)
  go_wp2_with fail
  refine hK _ _ (aA (aj aV (.cells (ae x0.1 x0.2) 47))) ?_
  clear hK K
  iterate 1 (refine aP (by kernel_rfl) (by kernel_rfl) (fun K hK=>?_);go_big_quiet_op;refine hK _ ?_;clear hK K)
  refine bV ?_
  have cO:=aj aV (.cells (ae x0.1 x0.2) 47)
  have hbx:=World.alloc_heap_new v2 (.cells (ae x0.1 x0.2) 47)
  have iY:W.heap.size≤v2.heap.size:=aV.size
  clear hlk hv1 hv2 aV
  generalize (v2.alloc (.cells (ae x0.1 x0.2) 47))=V5 at *
  generalize v2.heap.size=bx at *
  have mW:=ag hB cO
  have h5:=h'.later cO
  have hx5:=aJ cO hx3
  clear c0 c1 c2 c3 c4 f1 hl iJ l0
  have l0:w.heap.size<V5.heap.size:=(Array.getElem?_eq_some_iff.1 hx5).1
  have iJ:row? V5 w.heap.size 0 2=some (ah t q):=by rw[bQ hx5];exact df (by simp[go_sem])
  have n0:=pq h w.heap.size (Nat.le_refl _)
  obtain⟨hc,hf,hr,hlt⟩:=aB hbx
  go_wp2_with fail
  have hs3:=dI (o:=13) (.int .i64 su) (dI (o:=12) (.int .i64 la) (dI (o:=11) (.int .i64 f) hbx))
  rw[WH]at hs3
  have hbw:w.heap.size≤bx:=Nat.le_trans hB.size iY
  have hb3:Below W.heap.size W (((V5.setCell ⟨bx,11,none⟩ (.int .i64 f)).setCell ⟨bx,12,none⟩ (.int .i64 la)).setCell ⟨bx,13,none⟩ (.int .i64 su)):=((cO.setCell iY _).setCell iY _).setCell iY _
  clear hc hf hr hlt hbx cO
  generalize (((V5.setCell ⟨bx,11,none⟩ (.int .i64 f)).setCell ⟨bx,12,none⟩ (.int .i64 la)).setCell ⟨bx,13,none⟩ (.int .i64 su))=V6 at *
  clear mW h5 hx5 l0 iJ
  have mX:=ag hB hb3
  have h6:=h.later mX
  have hx6:=aJ hb3 hx3
  obtain⟨c0,c1,c2,c3,c4,f1,hl⟩:=dO h6.box
  have l0:w.heap.size<V6.heap.size:=(Array.getElem?_eq_some_iff.1 hx6).1
  have l1:bx<V6.heap.size:=(Array.getElem?_eq_some_iff.1 hs3).1
  have iJ:row? V6 w.heap.size 0 2=some (ah t q):=by rw[bQ hx6];exact df (by simp[go_sem])
  have ajH:row? V6 bx 0 17=some (ae x0.1 (touched x0.2 f la su)):=by rw[bQ hs3];exact df (by simp[go_sem])
  have n1:=pq h bx hbw
  have e1:¬one e w.heap.size:=bu (fun e'=>n0 (.inr (.inr (.inl e'))))
  have e2:¬one e bx:=bu (fun e'=>n1 (.inr (.inr (.inl e'))))
  have e3:¬one e b:=bu (fM h.box h.em)
  go_wp2_with fail
  refine oZ (one e) (But.refl _ V6) (by kernel_rfl) (by kernel_rfl) ?_
  repeat (first|(refine ax (by rfl) ?_)|(refine aP (by rfl) (by rfl) (fun K hK=>?_);go_big_quiet_op;refine hK _ ?_;clear hK K))
  refine aU (by rfl) (by rfl) (fun K hK=>?_)
  go_wp2_with fail
  refine(kT _ _ V6.drew ((hq'.later hb3).later (Below.refl _ _).drew)).mono ?_
  rintro z V7 ⟨rfl,hb7⟩
  dsimp only
  have ku:Below V6.heap.size V6 V7:=(Below.refl _ V6).drew.trans hb7
  refine hK _ _ (dw (But.of_below ku)) ?_
  clear hK K
  repeat (first|(refine ax (by rfl) ?_)|(refine aP (by rfl) (by rfl) (fun K hK=>?_);go_big_quiet_op;refine hK _ ?_;clear hK K))
  obtain⟨V8,hrun,DX,hb8,hs8⟩:=AA (P:=Tryz.prog) (k:=dQ q) (v:=.agg (ae x0.1 (touched x0.2 f la su))) Tryz.underlying85 Tryz.underlying9 (h6.em.at (ku.block e h6.em.lt))
  rw[show Value.agg (ae x0.1 (touched x0.2 f la su))=Value.agg (cu (x0.1,touched x0.2 f la su)) from rfl,WG hg hx0 Ba]at DX
  have oC:But (one e) V6 V8:=(But.of_below ku).trans ⟨hb8.os,hb8.tape,hb8.output,hb8.size,hb8.block⟩
  refine aU (by rfl) (by rfl) (fun K hK=>?_)
  go_wp2_with fail
  refine hK _ _ (dw oC) ?_
  clear hK K
  repeat (first|(refine ax (by rfl) ?_)|(refine aP (by rfl) (by rfl) (fun K hK=>?_);go_big_quiet_op;refine hK _ ?_;clear hK K))
  refine bV ?_
  have jY:V8.heap[b]?=some (.cells (lI re s n e p) 90):=(oC.block b hl e3).trans h6.box
  obtain⟨o9,vg,tV,Gz⟩:=aB jY
  have hc91:=o9 1
  have vk:=vg 1
  go_wp2_with fail
  refine(wX b s V8 hc91 vk hs0 hs1).mono ?_
  rintro z w' ⟨rfl,rfl⟩
  dsimp only
  have rJ:But (aZ b n e p) w V8:=(But.of_below mX).trans (oC.mono fun k hk=>.inr (.inr (.inl hk)))
  have lL:=dI (o:=1) (.int .i64 (s+1)) jY
  rw[uY]at lL
  have hoth:∀k,k≠b→(V8.setCell ⟨b,1,none⟩ (.int .i64 (s+1))).heap[k]?=V8.heap[k]?:=fun k hk=>Below.heap_setCell _ _ _ _ hk
  have hnb:n≠b:=fun e'=>fM h6.box h6.nm e'.symm
  have heb:e≠b:=fun e'=>fM h6.box h6.em e'.symm
  have hpb:p≠b:=fun e'=>fM h6.box h6.pm e'.symm
  have h8:=bU.mk lL (h6.nm.at ((hoth n hnb).trans (oC.block n h6.nm.lt (bu h.ne.1)))) (DX.at (hoth e heb)) (h6.pm.at ((hoth p hpb).trans (oC.block p h6.pm.lt (bu (Ne.symm h.ne.2.2))))) h.ne
  have yY:=Bc (o:=1) (v:=.int .i64 (s+1)) rJ (.inl (.inl rfl))
  go_wp2_with fail
  go_ret
  exact⟨rfl,yY,h8⟩
 ·intro v1 hv1
  simp only[pick,List.getElem?_cons_zero,List.getElem?_cons_succ]
  iterate 6 (refine aP (by kernel_rfl) (by kernel_rfl) (fun K hK=>?_);go_big_quiet_op;refine hK _ ?_;clear hK K)
  refine aU (by rfl) (by rfl) (fun K hK=>?_)
  go_wp2_with fail
  refine hK _ _ (aA (aj hv1 _)) ?_
  clear hK K
  rw[←nN]
  have hz1:=World.alloc_heap_new v1 (.cells (ae aW aQ) 47)
  have eP:=aj hv1 (.cells (ae aW aQ) 47)
  generalize v1.alloc (.cells (ae aW aQ) 47)=Z at *
  refine aU (by rfl) (by rfl) (fun K hK=>?_)
  go_wp2_with fail
  refine(kT _ _ _ (hq'.later eP)).mono ?_
  rintro z v2 ⟨rfl,hv2⟩
  dsimp only
  have aV:=ag eP hv2
  refine hK _ _ (aA aV) ?_
  clear hK K
  have hz2:=aJ hv2 hz1
  have hcp:aS v2 v1.heap.size 0 17=true:=lY hz2 (by simp[go_sem])
  have cO:=Go.WW.Below.putRow (o:=0) (cs:=ae x0.1 x0.2) aV hv1.size
  iterate 4 (refine aP (by kernel_rfl) (by kernel_rfl) (fun K hK=>?_);go_big_quiet_op;refine hK _ ?_;clear hK K)
  refine aU (by rfl) (by rfl) (fun K hK=>?_)
  go_wp2_with fail
  refine hK _ _ (aA cO) ?_
  clear hK K
  iterate 1 (refine aP (by kernel_rfl) (by kernel_rfl) (fun K hK=>?_);go_big_quiet_op;refine hK _ ?_;clear hK K)
  refine bV ?_
  have hbx:=kM (o:=0) (cs:=ae x0.1 x0.2) hz2 (by simp[go_sem])
  rw[nZ (by simp[go_sem])]at hbx
  have iY:W.heap.size≤v1.heap.size:=hv1.size
  clear hlk hv2 aV hz1 hz2 hcp eP
  generalize (putRow v2 v1.heap.size 0 (ae x0.1 x0.2))=V5 at *
  generalize v1.heap.size=bx at *
  have mW:=ag hB cO
  have h5:=h'.later cO
  have hx5:=aJ cO hx3
  clear c0 c1 c2 c3 c4 f1 hl iJ l0
  have l0:w.heap.size<V5.heap.size:=(Array.getElem?_eq_some_iff.1 hx5).1
  have iJ:row? V5 w.heap.size 0 2=some (ah t q):=by rw[bQ hx5];exact df (by simp[go_sem])
  have n0:=pq h w.heap.size (Nat.le_refl _)
  obtain⟨hc,hf,hr,hlt⟩:=aB hbx
  go_wp2_with fail
  have hs3:=dI (o:=13) (.int .i64 su) (dI (o:=12) (.int .i64 la) (dI (o:=11) (.int .i64 f) hbx))
  rw[WH]at hs3
  have hbw:w.heap.size≤bx:=Nat.le_trans hB.size iY
  have hb3:Below W.heap.size W (((V5.setCell ⟨bx,11,none⟩ (.int .i64 f)).setCell ⟨bx,12,none⟩ (.int .i64 la)).setCell ⟨bx,13,none⟩ (.int .i64 su)):=((cO.setCell iY _).setCell iY _).setCell iY _
  clear hc hf hr hlt hbx cO
  generalize (((V5.setCell ⟨bx,11,none⟩ (.int .i64 f)).setCell ⟨bx,12,none⟩ (.int .i64 la)).setCell ⟨bx,13,none⟩ (.int .i64 su))=V6 at *
  clear mW h5 hx5 l0 iJ
  have mX:=ag hB hb3
  have h6:=h.later mX
  have hx6:=aJ hb3 hx3
  obtain⟨c0,c1,c2,c3,c4,f1,hl⟩:=dO h6.box
  have l0:w.heap.size<V6.heap.size:=(Array.getElem?_eq_some_iff.1 hx6).1
  have l1:bx<V6.heap.size:=(Array.getElem?_eq_some_iff.1 hs3).1
  have iJ:row? V6 w.heap.size 0 2=some (ah t q):=by rw[bQ hx6];exact df (by simp[go_sem])
  have ajH:row? V6 bx 0 17=some (ae x0.1 (touched x0.2 f la su)):=by rw[bQ hs3];exact df (by simp[go_sem])
  have n1:=pq h bx hbw
  have e1:¬one e w.heap.size:=bu (fun e'=>n0 (.inr (.inr (.inl e'))))
  have e2:¬one e bx:=bu (fun e'=>n1 (.inr (.inr (.inl e'))))
  have e3:¬one e b:=bu (fM h.box h.em)
  go_wp2_with fail
  refine oZ (one e) (But.refl _ V6) (by kernel_rfl) (by kernel_rfl) ?_
  repeat (first|(refine ax (by rfl) ?_)|(refine aP (by rfl) (by rfl) (fun K hK=>?_);go_big_quiet_op;refine hK _ ?_;clear hK K))
  refine aU (by rfl) (by rfl) (fun K hK=>?_)
  go_wp2_with fail
  refine(kT _ _ V6.drew ((hq'.later hb3).later (Below.refl _ _).drew)).mono ?_
  rintro z V7 ⟨rfl,hb7⟩
  dsimp only
  have ku:Below V6.heap.size V6 V7:=(Below.refl _ V6).drew.trans hb7
  refine hK _ _ (dw (But.of_below ku)) ?_
  clear hK K
  repeat (first|(refine ax (by rfl) ?_)|(refine aP (by rfl) (by rfl) (fun K hK=>?_);go_big_quiet_op;refine hK _ ?_;clear hK K))
  obtain⟨V8,hrun,DX,hb8,hs8⟩:=AA (P:=Tryz.prog) (k:=dQ q) (v:=.agg (ae x0.1 (touched x0.2 f la su))) Tryz.underlying85 Tryz.underlying9 (h6.em.at (ku.block e h6.em.lt))
  rw[show Value.agg (ae x0.1 (touched x0.2 f la su))=Value.agg (cu (x0.1,touched x0.2 f la su)) from rfl,WG hg hx0 Ba]at DX
  have oC:But (one e) V6 V8:=(But.of_below ku).trans ⟨hb8.os,hb8.tape,hb8.output,hb8.size,hb8.block⟩
  refine aU (by rfl) (by rfl) (fun K hK=>?_)
  go_wp2_with fail
  refine hK _ _ (dw oC) ?_
  clear hK K
  repeat (first|(refine ax (by rfl) ?_)|(refine aP (by rfl) (by rfl) (fun K hK=>?_);go_big_quiet_op;refine hK _ ?_;clear hK K))
  refine bV ?_
  have jY:V8.heap[b]?=some (.cells (lI re s n e p) 90):=(oC.block b hl e3).trans h6.box
  obtain⟨o9,vg,tV,Gz⟩:=aB jY
  have hc91:=o9 1
  have vk:=vg 1
  go_wp2_with fail
  refine(wX b s V8 hc91 vk hs0 hs1).mono ?_
  rintro z w' ⟨rfl,rfl⟩
  dsimp only
  have rJ:But (aZ b n e p) w V8:=(But.of_below mX).trans (oC.mono fun k hk=>.inr (.inr (.inl hk)))
  have lL:=dI (o:=1) (.int .i64 (s+1)) jY
  rw[uY]at lL
  have hoth:∀k,k≠b→(V8.setCell ⟨b,1,none⟩ (.int .i64 (s+1))).heap[k]?=V8.heap[k]?:=fun k hk=>Below.heap_setCell _ _ _ _ hk
  have hnb:n≠b:=fun e'=>fM h6.box h6.nm e'.symm
  have heb:e≠b:=fun e'=>fM h6.box h6.em e'.symm
  have hpb:p≠b:=fun e'=>fM h6.box h6.pm e'.symm
  have h8:=bU.mk lL (h6.nm.at ((hoth n hnb).trans (oC.block n h6.nm.lt (bu h.ne.1)))) (DX.at (hoth e heb)) (h6.pm.at ((hoth p hpb).trans (oC.block p h6.pm.lt (bu (Ne.symm h.ne.2.2))))) h.ne
  have yY:=Bc (o:=1) (v:=.int .i64 (s+1)) rJ (.inl (.inl rfl))
  go_wp2_with fail
  go_ret
  exact⟨rfl,yY,h8⟩
end Go.Proofs.YtfieenjdcpjmgaaGreatDoor
namespace Go.WW
open Go.RowKit
def pz(w:World)(i:Nat):Nat:=
 match w.heap[i]? with
 |some (.mapIter (some b) _ seen _)=>(match w.heap[b]? with|some (.map es _)=>(leftOf es seen).size|_=>0)
 |_=>0
theorem lH.pz{w:World}{i b:Nat}{m left:List (ByteArray×Value)}(h:lH w i b m left):pz w i=left.length:=by
 obtain⟨es,clock,seen,c0,h1,h2,-,-,h5⟩:=h
 have hl:=congrArg List.length h5
 simp only[List.length_map,Array.length_toList]at hl
 unfold Go.WW.pz
 rw[h1]
 dsimp only
 rw[h2]
 exact hl
end Go.WW
namespace Go.Proofs.YtfieenjdcpjmgaaGreatDoor
open Go.RowKit Go.WW
theorem ajI(b n e p:Nat)(re:ByteArray)(s:Int)(N:List (ByteArray×Value))(E:List EE)(P:List ai)(k:ByteArray)(w:World)(h:bU w b n e p re s N E P)(hre:¬re=⟨#[]⟩)(hP:P.any (fun x=>decide (x.name=k))=false) :
  Calls Tryz.prog 30 #[.pointer (some ⟨b,0,none⟩),.string k] w fun z w'=>z=.returned (.int .i64 9)∧Below w.heap.size w w':=by
 obtain⟨c0,c1,c2,c3,c4,f1,hl⟩:=dO h.box
 have hlk:=Dq h.pm k hP
 go_enter Tryz.func30,Tryz.ntmps30
 go_wp2_with fail
 refine(jo _ _ _ c0 hre).mono ?_
 rintro x w' ⟨rfl,rfl⟩
 dsimp only
 go_wp2_with fail
 go_ret
 exact⟨rfl,aj (Below.refl _ w) _⟩
theorem ajJ(b n e p:Nat)(re:ByteArray)(s:Int)(N:List (ByteArray×Value))(E:List EE)(P:List ai)(q0:ai)(w:World)(h:bU w b n e p re s N E P)(hre:¬re=⟨#[]⟩)(hq:q0∈P)(hb:∃x∈E,x.2.aO=q0.name) :
  Calls Tryz.prog 30 #[.pointer (some ⟨b,0,none⟩),.string q0.name] w fun z w'=>z=.returned (.int .i64 11)∧Below w.heap.size w w':=by
 obtain⟨c0,c1,c2,c3,c4,f1,hl⟩:=dO h.box
 have hlk:=Dp h.pm q0 hq
 have hB:Below w.heap.size w (w.alloc (.cells (aC q0) 50)):=aj (Below.refl _ w) _
 obtain⟨w1,hrange,hit,hb1,hs1⟩:=Gt (P:=Tryz.prog) (w:=w.alloc (.cells (aC q0) 50)) Tryz.underlying85 ((h.later hB).em)
 obtain⟨i,hi⟩:∃i,i=(w.alloc (.cells (aC q0) 50)).heap.size:=⟨_,rfl⟩
 rw[←hi]at hrange hit hs1
 have hB1:=ag hB (by rw[←hi]at hb1;rw[←hi];exact hb1)
 have hiw:w.heap.size<i:=by rw[hi];simp
 clear hi hb1
 have HB:=Lib.hid hb
 clear hb
 go_enter Tryz.func30,Tryz.ntmps30
 go_wp2_with fail
 refine(jo _ _ _ c0 hre).mono ?_
 rintro x w' ⟨rfl,rfl⟩
 dsimp only
 go_wp2_with fail
 clear hrange hlk
 go_loopw [] (fun wr=>∃left:List EE,Hid (lH wr i e (lM E) (lM left))∧Hid (∃x∈left,x.2.aO=q0.name)∧Below w.heap.size w wr) (fun wr=>pz wr i)
 case atStart=>exact⟨E,hit,HB,hB1⟩
 case round=>
  obtain⟨left,hI,hp,hbr⟩:=hrel
  rcases Gu (P:=Tryz.prog) 0 hI.out with⟨hl0,hrun⟩|⟨l1,x,l2,w2,hl,hrun,hent,hI2,hb2,hs2⟩
  ·obtain rfl:left=[]:=by cases left<;>simp_all
   obtain⟨x,hx,-⟩:=hp.out
   cases hx
  ·obtain⟨L1,L',hL,e1,e2⟩:=List.map_eq_append_iff.1 hl
   obtain⟨y,L2,rfl,e3,e4⟩:=List.map_eq_cons_iff.1 e2
   subst e3 e1 e4 hL
   have hbw2:Below w.heap.size w w2:=yX hbr hb2 (fun j (hj:j=i)=>by omega)
   have hrun':(Instr.next (.pointer (some ⟨i,0,none⟩)) false 0).run Tryz.prog wr=.ok (.tuple #[.bool true,.string (textOf y.2.name),.agg (cu y)]) w2:=hrun
   have DR:(Instr.entry (.pointer (some ⟨i,0,none⟩))).run Tryz.prog w2=.ok (.tuple #[.string (textOf y.2.name),.agg (cu y)]) w2:=hent
   simp only[cu]at hrun' DR
   clear hrun hent
   by_cases hk:y.2.aO=q0.name
   ·have hse:=str_eq _ _ hk
    go_wp2_with fail
    go_ret
    exact⟨rfl,aj hbw2 _⟩
   ·have hse:=lu _ _ hk
    have hbn:=aj hbw2 (.cells (ae y.1 y.2) 47)
    have hsz:i<w2.heap.size:=hI2.lt
    have hel:e<w2.heap.size:=hI2.map.lt
    have yZ:lH (w2.alloc (.cells (ae y.1 y.2) 47)) i e (lM E) (lM (L1++L2)):=by
     have:=hI2.at (w':=w2.alloc (.cells (ae y.1 y.2) 47)) (Below.heap_alloc _ _ _ hsz) (Below.heap_alloc _ _ _ hel)
     rw[show lM (L1++L2)=lM L1++lM L2 from List.map_append];exact this
    have hm1:=yZ.pz
    have hm0:=hI.out.pz
    have HM:=Lib.hid (show pz (w2.alloc (.cells (ae y.1 y.2) 47)) i<pz wr i by rw[hm1,hm0];simp)
    have HI3:=Lib.hid yZ
    clear hm1 hm0 yZ
    go_wp2_with fail
    go_roundw
    case rel=>
     refine⟨L1++L2,HI3,?_,hbn⟩
     obtain⟨x,hx,ex⟩:=hp.out
     refine⟨x,?_,ex⟩
     rcases List.mem_append.1 hx with hx|hx
     ·exact List.mem_append.2 (.inl hx)
     ·rcases List.mem_cons.1 hx with rfl|hx
      ·exact absurd ex hk
      ·exact List.mem_append.2 (.inr hx)
    case measure=>exact HM.out
theorem ajK(b n e p:Nat)(re:ByteArray)(s:Int)(N:List (ByteArray×Value))(E:List EE)(P:List ai)(q0:ai)(w:World)(h:bU w b n e p re s N E P)(hre:¬re=⟨#[]⟩)(hq:q0∈P)(hb:∀x∈E,¬x.2.aO=q0.name)(hs0:0≤s)(hs1:s<1000000) :
  Calls Tryz.prog 30 #[.pointer (some ⟨b,0,none⟩),.string q0.name] w fun z w'=>z=.returned (.int .i64 0)∧But (aZ b n e p) w w'∧bU w' b n e p re (s+1) N E (DW P q0.name):=by
 obtain⟨c0,c1,c2,c3,c4,f1,hl⟩:=dO h.box
 have hlk:=Dp h.pm q0 hq
 have hB:Below w.heap.size w (w.alloc (.cells (aC q0) 50)):=aj (Below.refl _ w) _
 obtain⟨w1,hrange,hit,hb1,hsw⟩:=Gt (P:=Tryz.prog) (w:=w.alloc (.cells (aC q0) 50)) Tryz.underlying85 ((h.later hB).em)
 obtain⟨i,hi⟩:∃i,i=(w.alloc (.cells (aC q0) 50)).heap.size:=⟨_,rfl⟩
 rw[←hi]at hrange hit hsw
 have hB1:=ag hB (by rw[←hi]at hb1;rw[←hi];exact hb1)
 have hiw:w.heap.size<i:=by rw[hi];simp
 clear hi hb1 hsw
 have HB:=Lib.hid hb
 clear hb
 go_enter Tryz.func30,Tryz.ntmps30
 go_wp2_with fail
 refine(jo _ _ _ c0 hre).mono ?_
 rintro x w' ⟨rfl,rfl⟩
 dsimp only
 go_wp2_with fail
 clear hrange hlk
 go_loopw [] (fun wr=>∃left:List EE,Hid (lH wr i e (lM E) (lM left))∧Hid (∀x∈left,x∈E)∧Below w.heap.size w wr) (fun wr=>pz wr i)
 case atStart=>exact⟨E,hit,Lib.hid (fun x hx=>hx),hB1⟩
 case round=>
  obtain⟨left,hI,hp,hbr⟩:=hrel
  rcases Gu (P:=Tryz.prog) 0 hI.out with⟨hl0,hrun⟩|⟨l1,x,l2,w2,hl,hrun,hent,hI2,hb2,hs2⟩
  ·obtain rfl:left=[]:=by cases left<;>simp_all
   have h4:=h.later hbr
   clear c0 c1 c2 c3 c4 f1 hl
   obtain⟨c0,c1,c2,c3,c4,f1,hl⟩:=dO h4.box
   obtain⟨w5,hdel,WI,hb5,hs5⟩:=KD (P:=Tryz.prog) (k:=q0.name) (ty:=0) (nJ:=#[86,9]) rfl Tryz.underlying86 Tryz.underlying9 h4.pm
   rw[ajo]at WI
   have hbp:b≠p:=fM h4.box h4.pm
   have WJ:w5.heap[b]?=some (.cells (lI re s n e p) 90):=(hb5.block b hl hbp).trans h4.box
   obtain⟨o9,vg,tV,Gz⟩:=aB WJ
   have hc91:=o9 1
   have vk:=vg 1
   go_wp2_with fail
   refine(wX b s w5 hc91 vk hs0 hs1).mono ?_
   rintro z w' ⟨rfl,rfl⟩
   dsimp only
   have rJ:But (aZ b n e p) w w5:=(But.of_below hbr).trans (hb5.mono fun k hk=>.inr (.inr (.inr hk)))
   have lL:=dI (o:=1) (.int .i64 (s+1)) WJ
   rw[uY]at lL
   have hoth:∀k,k≠b→(w5.setCell ⟨b,1,none⟩ (.int .i64 (s+1))).heap[k]?=w5.heap[k]?:=fun k hk=>Below.heap_setCell _ _ _ _ hk
   have hnb:n≠b:=fun e'=>fM h4.box h4.nm e'.symm
   have heb:e≠b:=fun e'=>fM h4.box h4.em e'.symm
   have h8:=bU.mk lL (h4.nm.at ((hoth n hnb).trans (hb5.block n h4.nm.lt h.ne.2.1))) (h4.em.at ((hoth e heb).trans (hb5.block e h4.em.lt h.ne.2.2))) (WI.at (hoth p (Ne.symm hbp))) h.ne
   have yY:=Bc (o:=1) (v:=.int .i64 (s+1)) rJ (.inl (.inl rfl))
   go_wp2_with fail
   go_ret
   exact⟨rfl,yY,h8⟩
  ·obtain⟨L1,L',hL,e1,e2⟩:=List.map_eq_append_iff.1 hl
   obtain⟨y,L2,rfl,e3,e4⟩:=List.map_eq_cons_iff.1 e2
   subst e3 e1 e4 hL
   have hbw2:Below w.heap.size w w2:=yX hbr hb2 (fun j (hj:j=i)=>by omega)
   have hrun':(Instr.next (.pointer (some ⟨i,0,none⟩)) false 0).run Tryz.prog wr=.ok (.tuple #[.bool true,.string (textOf y.2.name),.agg (cu y)]) w2:=hrun
   have DR:(Instr.entry (.pointer (some ⟨i,0,none⟩))).run Tryz.prog w2=.ok (.tuple #[.string (textOf y.2.name),.agg (cu y)]) w2:=hent
   simp only[cu]at hrun' DR
   clear hrun hent
   have hk:¬y.2.aO=q0.name:=HB.out y (hp.out y (by simp))
   have hse:=lu _ _ hk
   have hbn:=aj hbw2 (.cells (ae y.1 y.2) 47)
   have hsz:i<w2.heap.size:=hI2.lt
   have hel:e<w2.heap.size:=hI2.map.lt
   have yZ:lH (w2.alloc (.cells (ae y.1 y.2) 47)) i e (lM E) (lM (L1++L2)):=by
    have:=hI2.at (w':=w2.alloc (.cells (ae y.1 y.2) 47)) (Below.heap_alloc _ _ _ hsz) (Below.heap_alloc _ _ _ hel)
    rw[show lM (L1++L2)=lM L1++lM L2 from List.map_append];exact this
   have hm1:=yZ.pz
   have hm0:=hI.out.pz
   have HM:=Lib.hid (show pz (w2.alloc (.cells (ae y.1 y.2) 47)) i<pz wr i by rw[hm1,hm0];simp)
   have HI3:=Lib.hid yZ
   have DT:=Lib.hid (show ∀x∈L1++L2,x∈E from fun x hx=>hp.out x (by
    rcases List.mem_append.1 hx with hx|hx
    ·exact List.mem_append.2 (.inl hx)
    ·exact List.mem_append.2 (.inr (List.mem_cons.2 (.inr hx)))))
   clear hm1 hm0 yZ
   go_wp2_with fail
   go_roundw
   case rel=>exact⟨L1++L2,HI3,DT,hbn⟩
   case measure=>exact HM.out
end Go.Proofs.YtfieenjdcpjmgaaGreatDoor
namespace Go.WW
open Go.RowKit
end Go.WW
namespace Go.Proofs.YtfieenjdcpjmgaaGreatDoor
open Go.RowKit Go.WW
structure KS(V:World)(E:Nat)(r:aN)(f l:Int):Prop where
 e:V.heap[E]?=some (.cells (ae r (ve f l)) 47)
 p:V.heap[E+1]?=some (.cells (aC (La 3)) 50)
 d:bH V (fun k=>k≠E∧k<V.heap.size) (fun x=>bK x r (ve f l))
theorem KS.later{V V':World}{E:Nat}{r:aN}{f l:Int}(h:KS V E r f l)(hb:Below V.heap.size V V'):KS V' E r f l:=
 ⟨aJ hb h.e,aJ hb h.p,h.d.to (fun k hk=>hb.block k hk.2) (fun _ hk=>⟨hk.1,Nat.lt_of_lt_of_le hk.2 hb.size⟩)⟩
theorem KS.put{V V':World}{E:Nat}{r r':aN}{f l f' l':Int}{o:Obj}(h:KS V E r f l)(hb:Below V.heap.size V V')(hd:bH V' (fresh V.heap.size V') (fun x=>bK x r' (ve f' l'))):KS (putRow (V'.alloc o) E 0 (ae r' (ve f' l'))) E r' f' l':=by
 have hE:E<V.heap.size:=(Array.getElem?_eq_some_iff.1 h.e).1
 have hE1:E+1<V.heap.size:=(Array.getElem?_eq_some_iff.1 h.p).1
 have hs:=hb.size
 have e1:(V'.alloc o).heap[E]?=some (.cells (ae r (ve f l)) 47):=by rw[Below.heap_alloc _ _ _ (by omega)];exact aJ hb h.e
 refine⟨?_,?_,?_⟩
 ·rw[kM e1 (by simp[go_sem]),nZ (by simp[go_sem])]
 ·rw[iI (by omega),Below.heap_alloc _ _ _ (by omega)];exact aJ hb h.p
 ·refine hd.to (fun k hk=>?_) (fun k hk=>⟨by have:=hk.1;omega,by rw[kN];have:=hk.2;simp;omega⟩)
  have h1:=hk.1
  have h2:=hk.2
  rw[iI (by omega),Below.heap_alloc _ _ _ h2]
theorem KS.Bd{V:World}{E:Nat}{r:aN}{f l:Int}(h:KS V E r f l):bK V r (ve f l):=h.d.out
end Go.Proofs.YtfieenjdcpjmgaaGreatDoor
namespace Go.WW
open Go.RowKit
def aqw(w:World)(e:Ending)(w':World):Prop:=∃b,e=.returned (.bool b)∧Below w.heap.size w w'
def RP(l:List az)(w:World)(i:Nat)(cs:Array Value):Prop:=∃p s,l[i]?=some p∧cs=ah s p∧bn w s p
end Go.WW
namespace Go.Proofs.YtfieenjdcpjmgaaGreatDoor
open Go.RowKit Go.WW
end Go.Proofs.YtfieenjdcpjmgaaGreatDoor
namespace Go.WW
open Go.RowKit
def aqx(L:List ai)(d:Entry):ai:=if d.aO=⟨#[]⟩then jX else(L.find? fun x=>decide (x.name=d.aO)).getD jX
def aqy(PL:List ai)(X:List EE)(w:World)(z:Ending)(w':World):Prop:=Below w.heap.size w w'∧∃bl:Bool,z=.returned (.bool bl)∧(bl=true→PL.length≤4∧X.length≤6)
end Go.WW
namespace Go.Proofs.YtfieenjdcpjmgaaGreatDoor
open Go.RowKit Go.WW
theorem ajL(ρ:Operand→Value)(dst:Option Tmp)(ty:TypeId)(pos:String)(after:Array Edge)(guard:Option (Nat×Bool)) :
  execOp ρ {dst,op:=.build 50 #[],type:=ty,pos,after,guard}=iq 50 #[]:=by simp[execOp,iq]
theorem ajM(w:World):(iq 50 #[]).run Tryz.prog w=.ok (.value (.agg (aC jX))) w:=by kernel_rfl
attribute [go_sem] ajM
attribute [go_sem ↓] ajL
end Go.Proofs.YtfieenjdcpjmgaaGreatDoor
namespace Go.WW
open Go.RowKit
theorem jL.wide{S S':Nat→Prop}{w w':World}{Φ:World→Prop}(h:jL S w Φ)(hb:Below w.heap.size w w')(hS:∀k,S' k→S k∨w.heap.size≤k):jL S' w' Φ:=
 fun y hy=>h y ⟨hy.os.trans hb.os,hy.tape.trans hb.tape,hy.output.trans hb.output,Nat.le_trans hb.size hy.size,fun k hk hn=>(hy.block k (Nat.lt_of_lt_of_le hk hb.size) fun hs=>by
  rcases hS k hs with h1|h1
  ·exact hn h1
  ·omega).trans (hb.block k hk)⟩
theorem iK.wide{S S':Nat→Prop}{es ps:Sl}{D:Db}{X:List EE}{w w':World}(h:iK S es ps D X w)(hb:Below w.heap.size w w')(hS:∀k,S' k→S k∨w.heap.size≤k):iK S' es ps D X w':=⟨h.dG.wide hb hS,h.dL.wide hb hS,h.cap⟩
abbrev dH:ByteArray:=⟨#[82]⟩
theorem vI:¬dH=⟨#[]⟩:=by intro h;have:=congrArg ByteArray.size h;simp[ByteArray.size]at this
theorem WL:gU dH=true:=by decide +kernel
def iZ:Db:=⟨⟨#[]⟩,0,[],[]⟩
def eQ(re:ByteArray):Db:=⟨re,0,[],[]⟩
abbrev bF:Sl:=⟨Option.none,0⟩
theorem MX:ak bF bF iZ=#[.string ⟨#[]⟩,.int .i64 0,.slice Option.none 0 0,.slice Option.none 0 0]:=rfl
theorem MZ:fA (eQ dH) [] [] [] []:=⟨rfl,fun k o=>by simp,gY.nil,List.Perm.refl _,List.Pairwise.nil,mD.nil,by simp⟩
end Go.WW
namespace Go.Proofs.YtfieenjdcpjmgaaGreatDoor
open Go.RowKit Go.WW
theorem ajN(ρ:Operand→Value)(dst:Option Tmp)(x:Operand)(ty:TypeId)(pos:String)(after:Array Edge)(guard:Option (Nat×Bool)) :
  execOp ρ {dst,op:=.build 32 #[(0,x)],type:=ty,pos,after,guard}=iq 32 #[(0,ρ x)]:=by simp[execOp,iq]
theorem ajO(re:ByteArray)(w:World):(iq 32 #[(0,.string re)]).run Tryz.prog w=.ok (.value (.agg (ak bF bF (eQ re)))) w:=by kernel_rfl
attribute [go_sem] ajO
attribute [go_sem ↓] ajN
theorem ajP(re:ByteArray)(w:World)(hs:re.size≤lim)(hok:gU re=true):Calls Tryz.prog 8 #[.string re] w fun z w'=>z=.returned (.tuple #[.agg (ak bF bF (eQ re)),.int .i64 0])∧Below w.heap.size w w':=by
 have hz3:aS (w.alloc (.cells (ak bF bF iZ) 32)) w.heap.size 0 4=true:=by simp[go_sem]
 have hB:Below w.heap.size w (w.alloc (.cells (ak bF bF iZ) 32)):=aj (Below.refl _ _) _
 have hR:=JK re (w.alloc (.cells (ak bF bF iZ) 32)) hs
 rw[hok]at hR
 rw[MX]at hz3 hB hR
 have HR:=Lib.hid hR
 clear hok hs hR
 go_enter Tryz.func8,Tryz.ntmps8
 go_wp2_with fail
 refine HR.out.mono ?_
 rintro z w' ⟨rfl,rfl⟩
 dsimp only
 go_wp2_with fail
 have hrow:row? (w.alloc (.cells (ak bF bF (eQ re)) 32)) w.heap.size 0 4=some (ak bF bF (eQ re)):=by rw[Fj rfl];exact df (jD _ _ _)
 exact bodyPost_ret (jE (by rfl) Tryz.underlying32 rfl (by kernel_rfl) rfl hrow) rfl ⟨rfl,aj (Below.refl _ _) _⟩
end Go.Proofs.YtfieenjdcpjmgaaGreatDoor
