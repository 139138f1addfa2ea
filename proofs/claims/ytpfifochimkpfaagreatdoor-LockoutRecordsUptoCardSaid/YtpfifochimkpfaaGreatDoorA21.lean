/- A part of the proof. -/
import Derived.Test.YtpfifochimkpfaaGreatDoorA17
import Derived.Test.YtpfifochimkpfaaGreatDoorA20
import Derived.Test.YtpfifochimkpfaaGreatDoorA19
import Derived.Test.YtpfifochimkpfaaGreatDoorA12
set_option maxRecDepth 100000
set_option maxHeartbeats 16000000
namespace Go.Proofs.YtpfifochimkpfaaGreatDoor
open Go.RowKit Go.WW
theorem MI(b:Nat)(re:ByteArray)(w:World)(hc:w.cell? ⟨b,0,none⟩=some (.string re))(hre:¬re=⟨#[]⟩):Calls Tryz.prog 32 #[.pointer (some ⟨b,0,none⟩)] w fun e w'=>e=.returned (.string re)∧w=w':=by
 have hl:=World.block_lt_of_cell? w _ hc
 go_enter Tryz.func32,Tryz.ntmps32
 go_wp2_with fail
 refine(nI _ _ _ hc hre).mono ?_
 rintro x w' ⟨rfl,rfl⟩
 dsimp only
 go_wp2_with fail
 go_ret
 exact⟨rfl,rfl⟩
attribute [local irreducible] aG
theorem ahz{w:World}{n:Nat}{L:List (ByteArray×ByteArray)}(h:MapOf w n (ed L)){k o:ByteArray}(hx:(k,o)∈L):(Instr.lookup 94 (.map (some n)) (.string k) false).run Tryz.prog w=.ok (.string o) w:=by
 have hm:(k,Value.string o)∈ed L:=List.mem_map.2 ⟨(k,o),hx,rfl⟩
 exact EU (P:=Tryz.prog) false Tryz.underlying94 Tryz.underlying9 h hm
theorem ahA{w:World}{n:Nat}{L:List (ByteArray×ByteArray)}(h:MapOf w n (ed L)){k:ByteArray}(hx:∀o,(k,o)∉L):(Instr.lookup 94 (.map (some n)) (.string k) false).run Tryz.prog w=.ok (.string ⟨#[]⟩) w:=by
 refine EW (P:=Tryz.prog) (z:=.string ⟨#[]⟩) false Tryz.underlying94 Tryz.underlying9 h (by kernel_rfl) ?_
 intro hm
 obtain⟨x,hx1,e⟩:=List.mem_map.1 hm
 obtain⟨y,hy,rfl⟩:=List.mem_map.1 hx1
 exact hx y.2 (by simp at e;rw[←e];exact hy)
theorem ahB(b n e p:Nat)(re:ByteArray)(s:Int)(NL:List (ByteArray×ByteArray))(E:List EE)(P:List ah)(t:Sl)(q:aH)(w:World)(h:dG w b n e p re s (ed NL) E P)(hre:¬re=⟨#[]⟩)(hq:bK w t q)(x0:EE)(hx0:x0∈E)(hk:(gu q,textOf x0.2.name)∈NL)(he:aS w x0.1 x0.2) :
  Calls Tryz.prog 35 #[.pointer (some ⟨b,0,none⟩),.agg (az t q)] w (vH w x0.2 0):=by
 have hB:Below w.heap.size w ((w.alloc (.cells (az t q) 35)).alloc (.cells (ae bg aV) 44)):=ay (ay (Below.refl _ _) _) _
 have hx3:((w.alloc (.cells (az t q) 35)).alloc (.cells (ae bg aV) 44)).heap[w.heap.size]?=some (.cells (az t q) 35):=kS _ _ _
 have hz:aX ((w.alloc (.cells (az t q) 35)).alloc (.cells (ae bg aV) 44)) (w.heap.size+1) 0 17=true:=by simp[go_sem]
 have MJ:w.heap.size+1<((w.alloc (.cells (az t q) 35)).alloc (.cells (ae bg aV) 44)).heap.size:=by simp
 have h':=h.later hB
 have hq':=hq.later hB
 have HE:=Lib.hid (he.later hB)
 clear h hq he
 rw[mO]at *
 go_enter Tryz.func35,Tryz.ntmps35
 go_wp2_with fail
 rw[←mO]at *
 generalize ((w.alloc (.cells (az t q) 35)).alloc (.cells (ae bg aV) 44))=W at *
 obtain⟨c0,c1,c2,c3,c4,f1,hl⟩:=gm h'.box
 have l0:w.heap.size<W.heap.size:=(Array.getElem?_eq_some_iff.1 hx3).1
 have kW:row? W w.heap.size 0 2=some (az t q):=by rw[dI hx3];exact gI (by simp[go_sem])
 refine(nI _ _ _ c0 hre).mono ?_
 rintro x w' ⟨rfl,rfl⟩
 dsimp only
 have hlk:∀x:Later W,(Instr.lookup 94 (.map (some n)) (.string (gu q)) false).run Tryz.prog x.w=.ok (.string (textOf x0.2.name)) x.w:=fun x=>ahz (h'.nm.at (x.b.block n h'.nm.lt)) hk
 have hlk2:∀x:Later W,(Instr.lookup 95 (.map (some e)) (.string (textOf x0.2.name)) true).run Tryz.prog x.w=.ok (.tuple #[.agg (ae x0.1 x0.2),.bool true]) x.w:=fun x=>Gv (h'.em.at (x.b.block e h'.em.lt)) x0 hx0
 go_wp2_with fail
 apply Ba (M:=fun(bx:Nat) V=>Below W.heap.size W V∧V.heap[bx]?=some (.cells (ae x0.1 x0.2) 44)∧W.heap.size≤bx)
 case h1=>
  refine Dv 17 11 [0,1,2,3,4,5,6,7,8,9,10,17,11,12,13,14,15,16,18,19] (Below.refl _ W) (by kernel_rfl) (by kernel_rfl) (by rfl) ?_ ?_
  ·intro v1 hv1
   iterate 11 (refine bC (by kernel_rfl) (by kernel_rfl) (fun K hK=>?_);go_big_quiet_op;refine hK _ ?_;clear hK K)
   refine bZ (by rfl) (by rfl) (fun K hK=>?_)
   go_wp2_with fail
   refine(uk _ _ v1 (hq'.later hv1)).mono ?_
   rintro z v2 ⟨rfl,hv2⟩
   dsimp only
   have aU:=ag hv1 hv2
   refine hK _ _ (aj aU) ?_
   clear hK K
   iterate 5 (refine bC (by kernel_rfl) (by kernel_rfl) (fun K hK=>?_);go_big_quiet_op;refine hK _ ?_;clear hK K)
   refine bZ (by rfl) (by rfl) (fun K hK=>?_)
   go_wp2_with fail
   refine hK _ _ (aj (ay aU _)) ?_
   clear hK K
   refine bZ (by rfl) (by rfl) (fun K hK=>?_)
   go_wp2_with fail
   refine hK _ _ (aj (ay aU (.cells (ae x0.1 x0.2) 44))) ?_
   clear hK K
   iterate 1 (refine bC (by kernel_rfl) (by kernel_rfl) (fun K hK=>?_);go_big_quiet_op;refine hK _ ?_;clear hK K)
   refine bz ?_
   have eQ:=ay aU (.cells (ae x0.1 x0.2) 44)
   have hbx:=World.alloc_heap_new v2 (.cells (ae x0.1 x0.2) 44)
   have jw:W.heap.size≤v2.heap.size:=aU.size
   clear hv1 hv2 aU
   generalize (v2.alloc (.cells (ae x0.1 x0.2) 44))=V5 at *
   generalize v2.heap.size=bx at *
   exact⟨by first|rfl|trivial,bx,rfl,⟨eQ,hbx,jw⟩⟩
  ·intro v1 hv1
   simp only[pick,List.getElem?_cons_zero,List.getElem?_cons_succ]
   iterate 11 (refine bC (by kernel_rfl) (by kernel_rfl) (fun K hK=>?_);go_big_quiet_op;refine hK _ ?_;clear hK K)
   refine bZ (by rfl) (by rfl) (fun K hK=>?_)
   go_wp2_with fail
   refine hK _ _ (aj (ay hv1 _)) ?_
   clear hK K
   rw[←mO]
   have hz1:=World.alloc_heap_new v1 (.cells (ae bg aV) 44)
   have iF:=ay hv1 (.cells (ae bg aV) 44)
   generalize v1.alloc (.cells (ae bg aV) 44)=Z at *
   refine bZ (by rfl) (by rfl) (fun K hK=>?_)
   go_wp2_with fail
   refine(uk _ _ _ (hq'.later iF)).mono ?_
   rintro z v2 ⟨rfl,hv2⟩
   dsimp only
   have aU:=ag iF hv2
   refine hK _ _ (aj aU) ?_
   clear hK K
   have hz2:=aI hv2 hz1
   have hcp:aX v2 v1.heap.size 0 17=true:=iC hz2 (by simp[go_sem])
   have eQ:=Go.WW.Below.putRow (o:=0) (cs:=ae x0.1 x0.2) aU hv1.size
   iterate 5 (refine bC (by kernel_rfl) (by kernel_rfl) (fun K hK=>?_);go_big_quiet_op;refine hK _ ?_;clear hK K)
   refine bZ (by rfl) (by rfl) (fun K hK=>?_)
   go_wp2_with fail
   refine hK _ _ (aj eQ) ?_
   clear hK K
   iterate 1 (refine bC (by kernel_rfl) (by kernel_rfl) (fun K hK=>?_);go_big_quiet_op;refine hK _ ?_;clear hK K)
   refine bz ?_
   have hbx:=jk (o:=0) (cs:=ae x0.1 x0.2) hz2 (by simp[go_sem])
   rw[kR (by simp[go_sem])]at hbx
   have jw:W.heap.size≤v1.heap.size:=hv1.size
   clear hv2 aU hz1 hz2 hcp iF
   generalize (putRow v2 v1.heap.size 0 (ae x0.1 x0.2))=V5 at *
   generalize v1.heap.size=bx at *
   exact⟨by first|rfl|trivial,bx,rfl,⟨eQ,hbx,jw⟩⟩
 rintro bx V ⟨bV,hbx,hge⟩
 clear hlk hlk2 c0 c1 c2 c3 c4 f1 kW
 have MK:=(fD bV (w.heap.size+1) 0 17 MJ).trans hz
 obtain⟨xc,xf,xr,xl⟩:=ax hbx
 have Vz:w.heap.size+1<V.heap.size:=by have:=bV.size;omega
 have hne:bx≠w.heap.size+1:=by omega
 go_wp2_with fail
 refine(yI _ _ _ (HE.out.later bV)).mono ?_
 rintro z V2 ⟨r',rfl,hb2,hd2⟩
 have hz2:=(fD hb2 (w.heap.size+1) 0 17 Vz).trans MK
 have hl2:w.heap.size+1<V2.heap.size:=by have:=hb2.size;omega
 clear xc xf xr
 dsimp only
 go_wp2_with fail
 have hrow:=gJ (w:=V2) (oP r' x0.2) hz2
 refine bodyPost_ret (kT (by rfl) Tryz.underlying44 rfl (by kernel_rfl) rfl hrow) rfl ⟨r',rfl,Go.WW.Below.putRow (ag (ag hB bV) hb2) (by omega),fun x hx=>?_⟩
 exact hd2 x (fun k hk=>by
  have h9:=hk.1
  have h8:=hk.2
  have h7:=bV.size
  rw[hx k ⟨by omega,by rw[gV];omega⟩,gU (by omega)])
theorem ahC(b n e p:Nat)(re:ByteArray)(s:Int)(NL:List (ByteArray×ByteArray))(E:List EE)(P:List ah)(t:Sl)(q:aH)(w:World)(h:dG w b n e p re s (ed NL) E P)(hre:¬re=⟨#[]⟩)(hq:bK w t q)(hno:∀o,(gu q,o)∉NL)(hE0:∀x∈E,textOf x.2.name≠⟨#[]⟩) :
  Calls Tryz.prog 35 #[.pointer (some ⟨b,0,none⟩),.agg (az t q)] w fun z w'=>z=.returned (.tuple #[.agg (ae bg aV),.int .i64 9])∧Below w.heap.size w w':=by
 have hB:Below w.heap.size w ((w.alloc (.cells (az t q) 35)).alloc (.cells (ae bg aV) 44)):=ay (ay (Below.refl _ _) _) _
 have hx3:((w.alloc (.cells (az t q) 35)).alloc (.cells (ae bg aV) 44)).heap[w.heap.size]?=some (.cells (az t q) 35):=kS _ _ _
 have hz:aX ((w.alloc (.cells (az t q) 35)).alloc (.cells (ae bg aV) 44)) (w.heap.size+1) 0 17=true:=by simp[go_sem]
 have MJ:w.heap.size+1<((w.alloc (.cells (az t q) 35)).alloc (.cells (ae bg aV) 44)).heap.size:=by simp
 have h':=h.later hB
 have hq':=hq.later hB
 clear h hq
 rw[mO]at *
 go_enter Tryz.func35,Tryz.ntmps35
 go_wp2_with fail
 rw[←mO]at *
 generalize ((w.alloc (.cells (az t q) 35)).alloc (.cells (ae bg aV) 44))=W at *
 obtain⟨c0,c1,c2,c3,c4,f1,hl⟩:=gm h'.box
 have l0:w.heap.size<W.heap.size:=(Array.getElem?_eq_some_iff.1 hx3).1
 have kW:row? W w.heap.size 0 2=some (az t q):=by rw[dI hx3];exact gI (by simp[go_sem])
 refine(nI _ _ _ c0 hre).mono ?_
 rintro x w' ⟨rfl,rfl⟩
 dsimp only
 have hlk:∀x:Later W,(Instr.lookup 94 (.map (some n)) (.string (gu q)) false).run Tryz.prog x.w=.ok (.string ⟨#[]⟩) x.w:=fun x=>ahA (h'.nm.at (x.b.block n h'.nm.lt)) hno
 have hlk2:∀x:Later W,(Instr.lookup 95 (.map (some e)) (.string ⟨#[]⟩) true).run Tryz.prog x.w=.ok (.tuple #[.agg (ae bg aV),.bool false]) x.w:=fun x=>Gw (h'.em.at (x.b.block e h'.em.lt)) _ hE0
 go_wp2_with fail
 apply Ba (M:=fun(bx:Nat) V=>Below W.heap.size W V∧V.heap[bx]?=some (.cells (ae bg aV) 44)∧W.heap.size≤bx)
 case h1=>
  refine Dv 17 11 [0,1,2,3,4,5,6,7,8,9,10,17,11,12,13,14,15,16,18,19] (Below.refl _ W) (by kernel_rfl) (by kernel_rfl) (by rfl) ?_ ?_
  ·intro v1 hv1
   iterate 11 (refine bC (by kernel_rfl) (by kernel_rfl) (fun K hK=>?_);go_big_quiet_op;refine hK _ ?_;clear hK K)
   refine bZ (by rfl) (by rfl) (fun K hK=>?_)
   go_wp2_with fail
   refine(uk _ _ v1 (hq'.later hv1)).mono ?_
   rintro z v2 ⟨rfl,hv2⟩
   dsimp only
   have aU:=ag hv1 hv2
   refine hK _ _ (aj aU) ?_
   clear hK K
   iterate 5 (refine bC (by kernel_rfl) (by kernel_rfl) (fun K hK=>?_);go_big_quiet_op;refine hK _ ?_;clear hK K)
   refine bZ (by rfl) (by rfl) (fun K hK=>?_)
   go_wp2_with fail
   refine hK _ _ (aj (ay aU _)) ?_
   clear hK K
   refine bZ (by rfl) (by rfl) (fun K hK=>?_)
   go_wp2_with fail
   refine hK _ _ (aj (ay aU (.cells (ae bg aV) 44))) ?_
   clear hK K
   iterate 1 (refine bC (by kernel_rfl) (by kernel_rfl) (fun K hK=>?_);go_big_quiet_op;refine hK _ ?_;clear hK K)
   refine bz ?_
   have eQ:=ay aU (.cells (ae bg aV) 44)
   have hbx:=World.alloc_heap_new v2 (.cells (ae bg aV) 44)
   have jw:W.heap.size≤v2.heap.size:=aU.size
   clear hv1 hv2 aU
   generalize (v2.alloc (.cells (ae bg aV) 44))=V5 at *
   generalize v2.heap.size=bx at *
   exact⟨by first|rfl|trivial,bx,rfl,⟨eQ,hbx,jw⟩⟩
  ·intro v1 hv1
   simp only[pick,List.getElem?_cons_zero,List.getElem?_cons_succ]
   iterate 11 (refine bC (by kernel_rfl) (by kernel_rfl) (fun K hK=>?_);go_big_quiet_op;refine hK _ ?_;clear hK K)
   refine bZ (by rfl) (by rfl) (fun K hK=>?_)
   go_wp2_with fail
   refine hK _ _ (aj (ay hv1 _)) ?_
   clear hK K
   rw[←mO]
   have hz1:=World.alloc_heap_new v1 (.cells (ae bg aV) 44)
   have iF:=ay hv1 (.cells (ae bg aV) 44)
   generalize v1.alloc (.cells (ae bg aV) 44)=Z at *
   refine bZ (by rfl) (by rfl) (fun K hK=>?_)
   go_wp2_with fail
   refine(uk _ _ _ (hq'.later iF)).mono ?_
   rintro z v2 ⟨rfl,hv2⟩
   dsimp only
   have aU:=ag iF hv2
   refine hK _ _ (aj aU) ?_
   clear hK K
   have hz2:=aI hv2 hz1
   have hcp:aX v2 v1.heap.size 0 17=true:=iC hz2 (by simp[go_sem])
   have eQ:=Go.WW.Below.putRow (o:=0) (cs:=ae bg aV) aU hv1.size
   iterate 5 (refine bC (by kernel_rfl) (by kernel_rfl) (fun K hK=>?_);go_big_quiet_op;refine hK _ ?_;clear hK K)
   refine bZ (by rfl) (by rfl) (fun K hK=>?_)
   go_wp2_with fail
   refine hK _ _ (aj eQ) ?_
   clear hK K
   iterate 1 (refine bC (by kernel_rfl) (by kernel_rfl) (fun K hK=>?_);go_big_quiet_op;refine hK _ ?_;clear hK K)
   refine bz ?_
   have hbx:=jk (o:=0) (cs:=ae bg aV) hz2 (by simp[go_sem])
   rw[kR (by simp[go_sem])]at hbx
   have jw:W.heap.size≤v1.heap.size:=hv1.size
   clear hv2 aU hz1 hz2 hcp iF
   generalize (putRow v2 v1.heap.size 0 (ae bg aV))=V5 at *
   generalize v1.heap.size=bx at *
   exact⟨by first|rfl|trivial,bx,rfl,⟨eQ,hbx,jw⟩⟩
 rintro bx V ⟨bV,hbx,hge⟩
 clear hlk hlk2 c0 c1 c2 c3 c4 f1 kW
 have MK:=(fD bV (w.heap.size+1) 0 17 MJ).trans hz
 obtain⟨xc,xf,xr,xl⟩:=ax hbx
 have Vz:w.heap.size+1<V.heap.size:=by have:=bV.size;omega
 have hne:bx≠w.heap.size+1:=by omega
 go_wp2_with fail
 have hrow:=gJ (w:=V) (oP bg aV) MK
 exact bodyPost_ret (kT (by rfl) Tryz.underlying44 rfl (by kernel_rfl) rfl hrow) rfl ⟨rfl,Go.WW.Below.putRow (ag hB bV) (by omega)⟩
end Go.Proofs.YtpfifochimkpfaaGreatDoor
namespace Go.WW
open Go.RowKit
def ML(w:World)(i:Nat):Nat:=
 match w.heap[i]? with
 |some (.mapIter (some b) _ seen _)=>(match w.heap[b]? with|some (.map es _)=>(leftOf es seen).size|_=>0)
 |_=>0
theorem oz.ML{w:World}{i b:Nat}{m left:List (ByteArray×Value)}(h:oz w i b m left):ML w i=left.length:=by
 obtain⟨es,clock,seen,c0,h1,h2,-,-,h5⟩:=h
 have hl:=congrArg List.length h5
 simp only[List.length_map,Array.length_toList]at hl
 unfold Go.WW.ML
 rw[h1]
 dsimp only
 rw[h2]
 exact hl
end Go.WW
namespace Go.Proofs.YtpfifochimkpfaaGreatDoor
open Go.RowKit Go.WW
end Go.Proofs.YtpfifochimkpfaaGreatDoor
namespace Go.WW
open Go.RowKit
theorem ahD{w:World}{Z Z' cs cs':Array Value}{T T':TypeId}(h:Z.size=cs.size)(h':Z'.size=cs'.size) :
  (putRow (putRow ((w.alloc (.cells Z T)).alloc (.cells Z' T')) w.heap.size 0 cs) (w.heap.size+1) 0 cs').heap[w.heap.size]?=some (.cells cs T)∧
  (putRow (putRow ((w.alloc (.cells Z T)).alloc (.cells Z' T')) w.heap.size 0 cs) (w.heap.size+1) 0 cs').heap[w.heap.size+1]?=some (.cells cs' T')∧
  Below w.heap.size w (putRow (putRow ((w.alloc (.cells Z T)).alloc (.cells Z' T')) w.heap.size 0 cs) (w.heap.size+1) 0 cs')∧(putRow (putRow ((w.alloc (.cells Z T)).alloc (.cells Z' T')) w.heap.size 0 cs) (w.heap.size+1) 0 cs').heap.size=w.heap.size+1+1:=by
 have h1:((w.alloc (.cells Z T)).alloc (.cells Z' T')).heap[w.heap.size]?=some (.cells Z T):=kS w _ _
 have h2:((w.alloc (.cells Z T)).alloc (.cells Z' T')).heap[w.heap.size+1]?=some (.cells Z' T'):=by
  have:=World.alloc_heap_new (w.alloc (.cells Z T)) (.cells Z' T')
  simpa using this
 refine⟨?_,?_,?_,by rw[gV,gV];simp⟩
 ·rw[gU (by omega),jk h1 (by omega),kR h]
 ·rw[jk (by rw[gU (by omega)];exact h2) (by omega),kR h']
 ·exact Go.WW.Below.putRow (Go.WW.Below.putRow (((Below.refl _ w).alloc (Nat.le_refl _) _).alloc (by simp) _) (Nat.le_refl _)) (by omega)
theorem oJ(f:Int):(cu f).name.size≤lim:=by show 1≤lim;unfold lim;omega
end Go.WW
namespace Go.Proofs.YtpfifochimkpfaaGreatDoor
open Go.RowKit Go.WW
structure KS(V:World)(E:Nat)(r:aK)(f l:Int):Prop where
 e:V.heap[E]?=some (.cells (ae r (aO f l)) 44)
 p:V.heap[E+1]?=some (.cells (ak (cu 3)) 52)
 d:bu V (fun k=>k≠E∧k<V.heap.size) (fun x=>aS x r (aO f l))
theorem KS.later{V V':World}{E:Nat}{r:aK}{f l:Int}(h:KS V E r f l)(hb:Below V.heap.size V V'):KS V' E r f l:=
 ⟨aI hb h.e,aI hb h.p,h.d.to (fun k hk=>hb.block k hk.2) (fun _ hk=>⟨hk.1,Nat.lt_of_lt_of_le hk.2 hb.size⟩)⟩
theorem KS.put{V V':World}{E:Nat}{r r':aK}{f l f' l':Int}{o:Obj}(h:KS V E r f l)(hb:Below V.heap.size V V')(hd:bu V' (fresh V.heap.size V') (fun x=>aS x r' (aO f' l'))):KS (putRow (V'.alloc o) E 0 (ae r' (aO f' l'))) E r' f' l':=by
 have hE:E<V.heap.size:=(Array.getElem?_eq_some_iff.1 h.e).1
 have hE1:E+1<V.heap.size:=(Array.getElem?_eq_some_iff.1 h.p).1
 have hs:=hb.size
 have e1:(V'.alloc o).heap[E]?=some (.cells (ae r (aO f l)) 44):=by rw[Below.heap_alloc _ _ _ (by omega)];exact aI hb h.e
 refine⟨?_,?_,?_⟩
 ·rw[jk e1 (by simp[go_sem]),kR (by simp[go_sem])]
 ·rw[gU (by omega),Below.heap_alloc _ _ _ (by omega)];exact aI hb h.p
 ·refine hd.to (fun k hk=>?_) (fun k hk=>⟨by have:=hk.1;omega,by rw[gV];have:=hk.2;simp;omega⟩)
  have h1:=hk.1
  have h2:=hk.2
  rw[gU (by omega),Below.heap_alloc _ _ _ h2]
theorem KS.pF{V:World}{E:Nat}{r:aK}{f l:Int}(h:KS V E r f l):aS V r (aO f l):=h.d.out
theorem ahE:fK (aO 0 0) (cu 3) 10=true:=by kernel_rfl
theorem ahF:fK (aO 1 10) (cu 3) 10=true:=by kernel_rfl
theorem ahG:fK (aO 2 10) (cu 3) 10=true:=by kernel_rfl
theorem Ho:fK (aO 3 10) (cu 3) 59=true:=by kernel_rfl
theorem MM:fK (aO 3 10) (cu 3) 60=true:=by kernel_rfl
theorem ahH:fK (aO 1 60) (cu 3) 160=true:=by kernel_rfl
theorem ahI:fK (aO 1 60) (cu 3) 161=true:=by kernel_rfl
theorem ahJ:fK (aO 0 10) (cu 3) 10=true:=by kernel_rfl
theorem ok0:fK (aO 3 10) (cu 0) 10=true:=by kernel_rfl
theorem ahK:fZ (aO 0 0) (cu 3) 10=false:=by kernel_rfl
theorem ahL:fZ (aO 1 10) (cu 3) 10=false:=by kernel_rfl
theorem ahM:fZ (aO 2 10) (cu 3) 10=false:=by kernel_rfl
theorem MN:fZ (aO 3 10) (cu 3) 59=true:=by kernel_rfl
theorem MO:fZ (aO 3 10) (cu 3) 60=false:=by kernel_rfl
theorem ahN:fZ (aO 0 10) (cu 3) 10=false:=by kernel_rfl
theorem lk0:fZ (aO 3 10) (cu 0) 10=false:=by kernel_rfl
theorem ahP:gK (aO 0 0) (cu 3) false 10=aO 1 10:=by kernel_rfl
theorem ahQ:gK (aO 1 10) (cu 3) false 10=aO 2 10:=by kernel_rfl
theorem ahR:gK (aO 2 10) (cu 3) false 10=aO 3 10:=by kernel_rfl
theorem ahS:gK (aO 3 10) (cu 3) false 60=aO 1 60:=by kernel_rfl
theorem ahT(r:aK)(w:World)(he:aS w r (aO 3 10)):Calls Tryz.prog 21 #[.agg (ae r (aO 3 10)),.agg (ak (cu 3)),.int .i64 59] w fun e w'=>e=.returned (.tuple #[.int .i64 3,.int .i64 0])∧Below w.heap.size w w':=by
 have h:=J8 r (aO 3 10) (cu 3) 59 w he (oJ 3)
 rw[Ho,show countOf (aO 3 10) (cu 3) 59=3 by kernel_rfl]at h
 exact h
theorem ahU(r:aK)(w:World)(he:aS w r (aO 1 60)):Calls Tryz.prog 21 #[.agg (ae r (aO 1 60)),.agg (ak (cu 3)),.int .i64 160] w fun e w'=>e=.returned (.tuple #[.int .i64 1,.int .i64 0])∧Below w.heap.size w w':=by
 have h:=J8 r (aO 1 60) (cu 3) 160 w he (oJ 3)
 rw[ahH,show countOf (aO 1 60) (cu 3) 160=1 by kernel_rfl]at h
 exact h
theorem ahV(r:aK)(w:World)(he:aS w r (aO 1 60)):Calls Tryz.prog 21 #[.agg (ae r (aO 1 60)),.agg (ak (cu 3)),.int .i64 161] w fun e w'=>e=.returned (.tuple #[.int .i64 0,.int .i64 0])∧Below w.heap.size w w':=by
 have h:=J8 r (aO 1 60) (cu 3) 161 w he (oJ 3)
 rw[ahI,show countOf (aO 1 60) (cu 3) 161=0 by kernel_rfl]at h
 exact h
theorem ahW(r:aK)(w:World)(he:aS w r (aO 3 10)):Calls Tryz.prog 22 #[.agg (ae r (aO 3 10)),.agg (ak (cu 3)),.int .i64 59] w fun e w'=>e=.returned (.tuple #[.int .i64 60,.int .i64 0])∧Below w.heap.size w w':=by
 have h:=Sm r (aO 3 10) (cu 3) 59 w he (oJ 3)
 rw[Ho,MN,show Au (aO 3 10) (cu 3)=60 by kernel_rfl]at h
 exact h
theorem ahX(r:aK)(w:World)(he:aS w r (aO 3 10)):Calls Tryz.prog 22 #[.agg (ae r (aO 3 10)),.agg (ak (cu 3)),.int .i64 60] w fun e w'=>e=.returned (.tuple #[.int .i64 0,.int .i64 8])∧Below w.heap.size w w':=by
 have h:=Sm r (aO 3 10) (cu 3) 60 w he (oJ 3)
 rw[MM,MO]at h
 exact h
theorem ahY(r:aK)(w:World)(he:aS w r (aO 0 0)):Calls Tryz.prog 20 #[.agg (ae r (aO 0 0)),.agg (ak (cu 3)),.bool false,.int .i64 10] w (vH w (aO 1 10) 0):=by
 have h:=FZ r (aO 0 0) (cu 3) false 10 w he (oJ 3) ahE ahK
 rw[ahP]at h
 exact h
theorem ahZ(r:aK)(w:World)(he:aS w r (aO 1 10)):Calls Tryz.prog 20 #[.agg (ae r (aO 1 10)),.agg (ak (cu 3)),.bool false,.int .i64 10] w (vH w (aO 2 10) 0):=by
 have h:=FZ r (aO 1 10) (cu 3) false 10 w he (oJ 3) ahF ahL
 rw[ahQ]at h
 exact h
theorem ah0(r:aK)(w:World)(he:aS w r (aO 2 10)):Calls Tryz.prog 20 #[.agg (ae r (aO 2 10)),.agg (ak (cu 3)),.bool false,.int .i64 10] w (vH w (aO 3 10) 0):=by
 have h:=FZ r (aO 2 10) (cu 3) false 10 w he (oJ 3) ahG ahM
 rw[ahR]at h
 exact h
theorem ah1(r:aK)(w:World)(he:aS w r (aO 3 10)):Calls Tryz.prog 20 #[.agg (ae r (aO 3 10)),.agg (ak (cu 3)),.bool false,.int .i64 60] w (vH w (aO 1 60) 0):=by
 have h:=FZ r (aO 3 10) (cu 3) false 60 w he (oJ 3) MM MO
 rw[ahS]at h
 exact h
theorem unl(r:aK)(w:World)(he:aS w r (aO 3 10)):Calls Tryz.prog 25 #[.agg (ae r (aO 3 10))] w (vH w (aO 0 10) 0):=ae6 r (aO 3 10) w he (by kernel_rfl)
theorem ah3(r:aK)(w:World)(he:aS w r (aO 3 10)):Calls Tryz.prog 24 #[.agg (ae r (aO 3 10)),.agg (ak (cu 3)),.int .i64 59,.bool true] w fun e w'=>e=.returned (.bool true)∧Below w.heap.size w w':=by
 have h:=Gf r (aO 3 10) (cu 3) 59 true w he (oJ 3) Ho
 rw[MN]at h
 exact h
theorem ah4(r:aK)(w:World)(he:aS w r (aO 3 10)):Calls Tryz.prog 24 #[.agg (ae r (aO 3 10)),.agg (ak (cu 3)),.int .i64 60,.bool false] w fun e w'=>e=.returned (.bool true)∧Below w.heap.size w w':=by
 have h:=Gf r (aO 3 10) (cu 3) 60 false w he (oJ 3) MM
 rw[MO]at h
 exact h
theorem ah5(r:aK)(w:World)(he:aS w r (aO 0 10)):Calls Tryz.prog 24 #[.agg (ae r (aO 0 10)),.agg (ak (cu 3)),.int .i64 10,.bool false] w fun e w'=>e=.returned (.bool true)∧Below w.heap.size w w':=by
 have h:=Gf r (aO 0 10) (cu 3) 10 false w he (oJ 3) ahJ
 rw[ahN]at h
 exact h
theorem ah6(r:aK)(w:World)(he:aS w r (aO 3 10)):Calls Tryz.prog 24 #[.agg (ae r (aO 3 10)),.agg (ak (cu 0)),.int .i64 10,.bool false] w fun e w'=>e=.returned (.bool true)∧Below w.heap.size w w':=by
 have h:=Gf r (aO 3 10) (cu 0) 10 false w he (oJ 0) ok0
 rw[lk0]at h
 exact h
theorem ah7:(ak (cu 3)).setIfInBounds 7 (.int .i64 0)=ak (cu 0):=by kernel_rfl
theorem Bc(w:World):Calls Tryz.prog 5 #[] w fun e w'=>e=.returned (.bool true)∧Below w.heap.size w w':=by
 go_enter Tryz.func5,Tryz.ntmps5
 go_wp2_with fail
 refine(afi _).mono ?_
 rintro e v0 ⟨r0,rfl,hb0,hd0⟩
 dsimp only
 go_wp2_with fail
 obtain⟨x1,x2,x3,x4⟩:=ahD (w:=v0) (Z:=#[.slice none 0 0,.string ⟨#[]⟩,.slice none 0 0,.int .u32 0,.int .i64 0,.slice none 0 0,.string ⟨#[]⟩,.int .i64 0,.int .i64 0,.int .i64 0,.int .i64 0,.int .i64 0,.int .i64 0,.int .i64 0,.slice none 0 0,.slice none 0 0,.slice none 0 0]) (Z':=#[.string ⟨#[]⟩,.int .i64 0,.int .i64 0,.int .i64 0,.int .i64 0,.int .i64 0,.int .i64 0,.int .i64 0,.int .i64 0,.int .i64 0]) (cs:=ae r0 (aO 0 0)) (cs':=ak (cu 3)) (T:=44) (T':=52) (by simp[go_sem]) (by simp[go_sem])
 have Bd:KS _ v0.heap.size r0 0 0:=⟨x1,x2,hd0.to (fun k hk=>x3.block k hk.2) (fun k hk=>⟨by have:=hk.2;omega,by have:=hk.2;omega⟩)⟩
 have hB0:Below w.heap.size w _:=ag hb0 x3
 have hE:v0.heap.size+1<(putRow (putRow ((v0.alloc (.cells #[.slice none 0 0,.string ⟨#[]⟩,.slice none 0 0,.int .u32 0,.int .i64 0,.slice none 0 0,.string ⟨#[]⟩,.int .i64 0,.int .i64 0,.int .i64 0,.int .i64 0,.int .i64 0,.int .i64 0,.int .i64 0,.slice none 0 0,.slice none 0 0,.slice none 0 0] 44)).alloc (.cells #[.string ⟨#[]⟩,.int .i64 0,.int .i64 0,.int .i64 0,.int .i64 0,.int .i64 0,.int .i64 0,.int .i64 0,.int .i64 0,.int .i64 0] 52)) v0.heap.size 0 (ae r0 (aO 0 0))) (v0.heap.size+1) 0 (ak (cu 3))).heap.size:=by omega
 clear x1 x2 x3 x4 hd0
 generalize putRow (putRow ((v0.alloc (.cells #[.slice none 0 0,.string ⟨#[]⟩,.slice none 0 0,.int .u32 0,.int .i64 0,.slice none 0 0,.string ⟨#[]⟩,.int .i64 0,.int .i64 0,.int .i64 0,.int .i64 0,.int .i64 0,.int .i64 0,.int .i64 0,.slice none 0 0,.slice none 0 0,.slice none 0 0] 44)).alloc (.cells #[.string ⟨#[]⟩,.int .i64 0,.int .i64 0,.int .i64 0,.int .i64 0,.int .i64 0,.int .i64 0,.int .i64 0,.int .i64 0,.int .i64 0] 52)) v0.heap.size 0 (ae r0 (aO 0 0))) (v0.heap.size+1) 0 (ak (cu 3))=V0 at *
 have MP:w.heap.size≤v0.heap.size:=hb0.size
 generalize v0.heap.size=E at *
 clear hb0
 refine wp_loop_rounds 4 ?_
 rw[rounds_succ]
 obtain⟨hc,hf,hr,hlt⟩:=ax Bd.e
 obtain⟨hc2,hf2,hr2,hlt2⟩:=ax Bd.p
 go_wp2_with fail
 refine(ahY _ _ Bd.pF).mono ?_
 rintro e v1 ⟨r1,rfl,hb1,hd1⟩
 clear hc hf hr hlt hc2 hf2 hr2 hlt2
 have Be:=Bd.put (o:=.cells (ae r1 (aO 1 10)) 44) hb1 hd1
 have hcp:aX v1 E 0 17=true:=iC (aI hb1 Bd.e) (by simp[go_sem])
 have hE1:E<v1.heap.size:=by have:=hb1.size;omega
 have hne:v1.heap.size≠E:=by omega
 have hB1:Below w.heap.size w (putRow (v1.alloc (.cells (ae r1 (aO 1 10)) 44)) E 0 (ae r1 (aO 1 10))):=Go.WW.Below.putRow ((ag hB0 hb1).alloc (ag hB0 hb1).size _) MP
 have hSz:E+1<(putRow (v1.alloc (.cells (ae r1 (aO 1 10)) 44)) E 0 (ae r1 (aO 1 10))).heap.size:=by rw[gV];have:=hb1.size;simp;omega
 dsimp only
 go_wp2_with (go_at_call 16;refine(iy _ _).mono ?_;rintro e w' ⟨rfl,rfl⟩)
 clear hcp hne hE1 hE Bd hB0 hd1 hb1
 generalize putRow (v1.alloc (.cells (ae r1 (aO 1 10)) 44)) E 0 (ae r1 (aO 1 10))=V1 at *
 have hE:=hSz
 clear hSz
 rw[rounds_succ]
 obtain⟨hc,hf,hr,hlt⟩:=ax Be.e
 obtain⟨hc2,hf2,hr2,hlt2⟩:=ax Be.p
 go_wp2_with fail
 refine(ahZ _ _ Be.pF).mono ?_
 rintro e v2 ⟨r2,rfl,hb2,hd2⟩
 clear hc hf hr hlt hc2 hf2 hr2 hlt2
 have Bf:=Be.put (o:=.cells (ae r2 (aO 2 10)) 44) hb2 hd2
 have hcp:aX v2 E 0 17=true:=iC (aI hb2 Be.e) (by simp[go_sem])
 have hE2:E<v2.heap.size:=by have:=hb2.size;omega
 have hne:v2.heap.size≠E:=by omega
 have hB2:Below w.heap.size w (putRow (v2.alloc (.cells (ae r2 (aO 2 10)) 44)) E 0 (ae r2 (aO 2 10))):=Go.WW.Below.putRow ((ag hB1 hb2).alloc (ag hB1 hb2).size _) MP
 have hSz:E+1<(putRow (v2.alloc (.cells (ae r2 (aO 2 10)) 44)) E 0 (ae r2 (aO 2 10))).heap.size:=by rw[gV];have:=hb2.size;simp;omega
 dsimp only
 go_wp2_with (go_at_call 16;refine(iy _ _).mono ?_;rintro e w' ⟨rfl,rfl⟩)
 clear hcp hne hE2 hE Be hB1 hd2 hb2
 generalize putRow (v2.alloc (.cells (ae r2 (aO 2 10)) 44)) E 0 (ae r2 (aO 2 10))=V2 at *
 have hE:=hSz
 clear hSz
 rw[rounds_succ]
 obtain⟨hc,hf,hr,hlt⟩:=ax Bf.e
 obtain⟨hc2,hf2,hr2,hlt2⟩:=ax Bf.p
 go_wp2_with fail
 refine(ah0 _ _ Bf.pF).mono ?_
 rintro e v3 ⟨r3,rfl,hb3,hd3⟩
 clear hc hf hr hlt hc2 hf2 hr2 hlt2
 have ks3:=Bf.put (o:=.cells (ae r3 (aO 3 10)) 44) hb3 hd3
 have hcp:aX v3 E 0 17=true:=iC (aI hb3 Bf.e) (by simp[go_sem])
 have hE3:E<v3.heap.size:=by have:=hb3.size;omega
 have hne:v3.heap.size≠E:=by omega
 have hB3:Below w.heap.size w (putRow (v3.alloc (.cells (ae r3 (aO 3 10)) 44)) E 0 (ae r3 (aO 3 10))):=Go.WW.Below.putRow ((ag hB2 hb3).alloc (ag hB2 hb3).size _) MP
 have hSz:E+1<(putRow (v3.alloc (.cells (ae r3 (aO 3 10)) 44)) E 0 (ae r3 (aO 3 10))).heap.size:=by rw[gV];have:=hb3.size;simp;omega
 dsimp only
 go_wp2_with (go_at_call 16;refine(iy _ _).mono ?_;rintro e w' ⟨rfl,rfl⟩)
 clear hcp hne hE3 hE Bf hB2 hd3 hb3
 generalize putRow (v3.alloc (.cells (ae r3 (aO 3 10)) 44)) E 0 (ae r3 (aO 3 10))=V3 at *
 have hE:=hSz
 clear hSz
 rw[rounds_succ]
 obtain⟨hc,hf,hr,hlt⟩:=ax ks3.e
 obtain⟨hc2,hf2,hr2,hlt2⟩:=ax ks3.p
 go_wp2_with fail
 refine(ahT _ _ ks3.pF).mono ?_
 rintro e v4 ⟨rfl,hb4⟩
 clear hc hf hr hlt hc2 hf2 hr2 hlt2
 have hg4:=hb4
 have ks4:=ks3.later hg4
 have hB4:=ag hB3 hg4
 obtain⟨hc,hf,hr,hlt⟩:=ax ks4.e
 obtain⟨hc2,hf2,hr2,hlt2⟩:=ax ks4.p
 dsimp only
 go_wp2_with (first|(go_at_call 16;refine(iy _ _).mono ?_;rintro e w' ⟨rfl,rfl⟩)|(go_at_call 23;refine(pV _ _ _ _).mono ?_;rintro e w' ⟨rfl,rfl⟩))
 refine(ahW _ _ ks4.pF).mono ?_
 rintro e v5 ⟨rfl,hb5⟩
 clear hc hf hr hlt hc2 hf2 hr2 hlt2
 have hg5:=hb5
 have Hq:=ks4.later hg5
 have lU:=ag hB4 hg5
 obtain⟨hc,hf,hr,hlt⟩:=ax Hq.e
 obtain⟨hc2,hf2,hr2,hlt2⟩:=ax Hq.p
 dsimp only
 go_wp2_with (first|(go_at_call 16;refine(iy _ _).mono ?_;rintro e w' ⟨rfl,rfl⟩)|(go_at_call 23;refine(pV _ _ _ _).mono ?_;rintro e w' ⟨rfl,rfl⟩))
 refine(afa _ (aO 3 10) (cu 3) true 59 _ Hq.pF (oJ 3) Ho MN).mono ?_
 rintro e v6 ⟨r6,rfl,hb6,hd6⟩
 clear hc hf hr hlt hc2 hf2 hr2 hlt2
 have VA:Below v5.heap.size v5 (v6.alloc (.cells (ae r6 aV) 44)):=hb6.alloc hb6.size _
 have ks6:=Hq.later VA
 have Kt:=ag lU VA
 obtain⟨hc,hf,hr,hlt⟩:=ax ks6.e
 obtain⟨hc2,hf2,hr2,hlt2⟩:=ax ks6.p
 dsimp only
 go_wp2_with (first|(go_at_call 16;refine(iy _ _).mono ?_;rintro e w' ⟨rfl,rfl⟩)|(go_at_call 23;refine(pV _ _ _ _).mono ?_;rintro e w' ⟨rfl,rfl⟩))
 generalize (v6.alloc (.cells (ae r6 aV) 44))=u6 at *
 refine(ah3 _ _ ks6.pF).mono ?_
 rintro e v7 ⟨rfl,hb7⟩
 clear hc hf hr hlt hc2 hf2 hr2 hlt2
 have VB:=hb7
 have Hr:=ks6.later VB
 have hB7:=ag Kt VB
 obtain⟨hc,hf,hr,hlt⟩:=ax Hr.e
 obtain⟨hc2,hf2,hr2,hlt2⟩:=ax Hr.p
 dsimp only
 go_wp2_with (first|(go_at_call 16;refine(iy _ _).mono ?_;rintro e w' ⟨rfl,rfl⟩)|(go_at_call 23;refine(pV _ _ _ _).mono ?_;rintro e w' ⟨rfl,rfl⟩))
 refine(ah4 _ _ Hr.pF).mono ?_
 rintro e v8 ⟨rfl,hb8⟩
 clear hc hf hr hlt hc2 hf2 hr2 hlt2
 have VC:=hb8
 have Ht:=Hr.later VC
 have Hu:=ag hB7 VC
 obtain⟨hc,hf,hr,hlt⟩:=ax Ht.e
 obtain⟨hc2,hf2,hr2,hlt2⟩:=ax Ht.p
 dsimp only
 go_wp2_with (first|(go_at_call 16;refine(iy _ _).mono ?_;rintro e w' ⟨rfl,rfl⟩)|(go_at_call 23;refine(pV _ _ _ _).mono ?_;rintro e w' ⟨rfl,rfl⟩))
 refine(ahX _ _ Ht.pF).mono ?_
 rintro e v9 ⟨rfl,iG⟩
 clear hc hf hr hlt hc2 hf2 hr2 hlt2
 have VD:=iG
 have Hw:=Ht.later VD
 have hB9:=ag Hu VD
 obtain⟨hc,hf,hr,hlt⟩:=ax Hw.e
 obtain⟨hc2,hf2,hr2,hlt2⟩:=ax Hw.p
 dsimp only
 go_wp2_with (first|(go_at_call 16;refine(iy _ _).mono ?_;rintro e w' ⟨rfl,rfl⟩)|(go_at_call 23;refine(pV _ _ _ _).mono ?_;rintro e w' ⟨rfl,rfl⟩))
 refine(unl _ _ Hw.pF).mono ?_
 rintro e v10 ⟨r10,rfl,xG,hd10⟩
 clear hc hf hr hlt hc2 hf2 hr2 hlt2
 have VF:Below v9.heap.size v9 (v10.alloc (.cells (ae r10 (aO 0 10)) 44)):=xG.alloc xG.size _
 have Hy:=Hw.later VF
 have aib:=ag hB9 VF
 have kZ:(v10.alloc (.cells (ae r10 (aO 0 10)) 44)).heap[v10.heap.size]?=some (.cells (ae r10 (aO 0 10)) 44):=World.alloc_heap_new _ _
 have mV:aS (v10.alloc (.cells (ae r10 (aO 0 10)) 44)) r10 (aO 0 10):=hd10.out.later ((Below.refl _ v10).alloc (Nat.le_refl _) _)
 obtain⟨hc,hf,hr,hlt⟩:=ax Hy.e
 obtain⟨hc2,hf2,hr2,hlt2⟩:=ax Hy.p
 obtain⟨qm,qo,oI,qw⟩:=ax kZ
 dsimp only
 go_wp2_with (first|(go_at_call 16;refine(iy _ _).mono ?_;rintro e w' ⟨rfl,rfl⟩)|(go_at_call 23;refine(pV _ _ _ _).mono ?_;rintro e w' ⟨rfl,rfl⟩))
 generalize (v10.alloc (.cells (ae r10 (aO 0 10)) 44))=u10 at *
 generalize v10.heap.size=B_U at *
 refine(ah1 _ _ Hy.pF).mono ?_
 rintro e v11 ⟨r11,rfl,rH,hd11⟩
 clear hc hf hr hlt hc2 hf2 hr2 hlt2 qm qo oI qw
 have Hz:Below u10.heap.size u10 (v11.alloc (.cells (ae r11 (aO 1 60)) 44)):=rH.alloc rH.size _
 have MQ:=Hy.later Hz
 have aic:=ag aib Hz
 have kZ:=aI Hz kZ
 have mV:=mV.later Hz
 have mW:(v11.alloc (.cells (ae r11 (aO 1 60)) 44)).heap[v11.heap.size]?=some (.cells (ae r11 (aO 1 60)) 44):=World.alloc_heap_new _ _
 have qx:aS (v11.alloc (.cells (ae r11 (aO 1 60)) 44)) r11 (aO 1 60):=hd11.out.later ((Below.refl _ v11).alloc (Nat.le_refl _) _)
 obtain⟨hc,hf,hr,hlt⟩:=ax MQ.e
 obtain⟨hc2,hf2,hr2,hlt2⟩:=ax MQ.p
 obtain⟨qm,qo,oI,qw⟩:=ax kZ
 obtain⟨uo,uq,uw,uy⟩:=ax mW
 dsimp only
 go_wp2_with (first|(go_at_call 16;refine(iy _ _).mono ?_;rintro e w' ⟨rfl,rfl⟩)|(go_at_call 23;refine(pV _ _ _ _).mono ?_;rintro e w' ⟨rfl,rfl⟩))
 generalize (v11.alloc (.cells (ae r11 (aO 1 60)) 44))=u11 at *
 generalize v11.heap.size=B_N at *
 refine(ahU _ _ qx).mono ?_
 rintro e v12 ⟨rfl,fJ⟩
 clear hc hf hr hlt hc2 hf2 hr2 hlt2 qm qo oI qw uo uq uw uy
 have Bg:=fJ
 have MR:=MQ.later Bg
 have aid:=ag aic Bg
 have kZ:=aI Bg kZ
 have mW:=aI Bg mW
 have mV:=mV.later Bg
 have qx:=qx.later Bg
 obtain⟨hc,hf,hr,hlt⟩:=ax MR.e
 obtain⟨hc2,hf2,hr2,hlt2⟩:=ax MR.p
 obtain⟨qm,qo,oI,qw⟩:=ax kZ
 obtain⟨uo,uq,uw,uy⟩:=ax mW
 dsimp only
 go_wp2_with (first|(go_at_call 16;refine(iy _ _).mono ?_;rintro e w' ⟨rfl,rfl⟩)|(go_at_call 23;refine(pV _ _ _ _).mono ?_;rintro e w' ⟨rfl,rfl⟩))
 have hps:=ah7
 refine(ahV _ _ qx).mono ?_
 rintro e v13 ⟨rfl,H9⟩
 clear hc hf hr hlt hc2 hf2 hr2 hlt2 qm qo oI qw uo uq uw uy
 have Bh:=H9
 have MS:=MR.later Bh
 have aie:=ag aid Bh
 have kZ:=aI Bh kZ
 have mW:=aI Bh mW
 have mV:=mV.later Bh
 have qx:=qx.later Bh
 obtain⟨hc,hf,hr,hlt⟩:=ax MS.e
 obtain⟨hc2,hf2,hr2,hlt2⟩:=ax MS.p
 obtain⟨qm,qo,oI,qw⟩:=ax kZ
 obtain⟨uo,uq,uw,uy⟩:=ax mW
 dsimp only
 go_wp2_with (first|(go_at_call 16;refine(iy _ _).mono ?_;rintro e w' ⟨rfl,rfl⟩)|(go_at_call 23;refine(pV _ _ _ _).mono ?_;rintro e w' ⟨rfl,rfl⟩))
 clear hc hf hr hlt hc2 hf2 hr2 hlt2 qm qo oI qw uo uq uw uy
 clear hps
 have hgq:Below v13.heap.size v13 (v13.alloc (.cells (ak (cu 0)) 52)):=(Below.refl _ _).alloc (Nat.le_refl _) _
 have MV:=MS.later hgq
 have xB:=ag aie hgq
 have kZ:=aI hgq kZ
 have mW:=aI hgq mW
 have mV:=mV.later hgq
 have qx:=qx.later hgq
 have zl:(v13.alloc (.cells (ak (cu 0)) 52)).heap[v13.heap.size]?=some (.cells (ak (cu 0)) 52):=World.alloc_heap_new _ _
 generalize (v13.alloc (.cells (ak (cu 0)) 52))=u13 at *
 generalize v13.heap.size=B_Q at *
 have hfk:(aO 1 60).fails=1:=rfl
 obtain⟨hc,hf,hr,hlt⟩:=ax MV.e
 obtain⟨hc2,hf2,hr2,hlt2⟩:=ax MV.p
 obtain⟨qm,qo,oI,qw⟩:=ax kZ
 obtain⟨uo,uq,uw,uy⟩:=ax mW
 obtain⟨Ia,Ib,Ic,Ie⟩:=ax zl
 refine(ah5 _ _ mV).mono ?_
 rintro e v14 ⟨rfl,zn⟩
 clear hc hf hr hlt hc2 hf2 hr2 hlt2 qm qo oI qw uo uq uw uy Ia Ib Ic Ie
 have zo:=zn
 have Ig:=MV.later zo
 have aif:=ag xB zo
 have kZ:=aI zo kZ
 have mW:=aI zo mW
 have zl:=aI zo zl
 have mV:=mV.later zo
 have qx:=qx.later zo
 obtain⟨hc,hf,hr,hlt⟩:=ax Ig.e
 obtain⟨hc2,hf2,hr2,hlt2⟩:=ax Ig.p
 obtain⟨qm,qo,oI,qw⟩:=ax kZ
 obtain⟨uo,uq,uw,uy⟩:=ax mW
 obtain⟨Ia,Ib,Ic,Ie⟩:=ax zl
 dsimp only
 go_wp2_with (first|(go_at_call 16;refine(iy _ _).mono ?_;rintro e w' ⟨rfl,rfl⟩)|(go_at_call 23;refine(pV _ _ _ _).mono ?_;rintro e w' ⟨rfl,rfl⟩))
 refine(ah6 _ _ Ig.pF).mono ?_
 rintro e v15 ⟨rfl,zq⟩
 clear hc hf hr hlt hc2 hf2 hr2 hlt2 qm qo oI qw uo uq uw uy Ia Ib Ic Ie
 have zt:=zq
 have VG:=Ig.later zt
 have aih:=ag aif zt
 have kZ:=aI zt kZ
 have mW:=aI zt mW
 have zl:=aI zt zl
 have mV:=mV.later zt
 have qx:=qx.later zt
 obtain⟨hc,hf,hr,hlt⟩:=ax VG.e
 obtain⟨hc2,hf2,hr2,hlt2⟩:=ax VG.p
 obtain⟨qm,qo,oI,qw⟩:=ax kZ
 obtain⟨uo,uq,uw,uy⟩:=ax mW
 obtain⟨Ia,Ib,Ic,Ie⟩:=ax zl
 dsimp only
 go_wp2_with (first|(go_at_call 16;refine(iy _ _).mono ?_;rintro e w' ⟨rfl,rfl⟩)|(go_at_call 23;refine(pV _ _ _ _).mono ?_;rintro e w' ⟨rfl,rfl⟩))
 go_ret
 exact⟨rfl,aih⟩
end Go.Proofs.YtpfifochimkpfaaGreatDoor
namespace Go.WW
open Go.RowKit
theorem MW{P:Program}{o:Oper}{a:Act}{w:World}{K:Act→World→Prop}{Q:Exit→Act→World→Prop}(x y:Operand)(t:TypeId)(ho:o.op=.call {callee:=.builtin .append,args:=#[x,y],argTypes:=#[t,t]})
  {e:TypeId} {k bytes:Nat} (he:fV P t e k bytes) {base:Nat} {s:Sl} {n:Nat} {rows:List (Array Value)} (hx:a.eval x=.slice s.a n s.cap) (hn:n=rows.length) (h:Own w base e k s rows) {A:Option Addr} {news:List (Array Value)} {m c:Nat}
  (hy:a.eval y=.slice A m c) (hm:m=news.length) (hs:cO w k A news) (hlen:(rows.length+news.length)*(bytes+1)≤140737488355328) (hbase:base≤w.heap.size)
  (hK:∀(s':Sl) w',Own w' base e k s' (rows++news)→w.grownBy w' s.blk→(s'.blk=s.blk∨s'.blk=some w.heap.size)→K (a.put o.dst (.slice s'.a (n+m) s'.cap)) w'):o.wp P a w K Q:=by
 subst hn hm
 exact JH x y t ho he hx h hy rfl hs hlen hbase hK
def aii(w:World)(e:Ending)(w':World):Prop:=∃b,e=.returned (.bool b)∧Below w.heap.size w w'
def RP(l:List aH)(w:World)(i:Nat)(cs:Array Value):Prop:=∃p s,l[i]?=some p∧cs=az s p∧bK w s p
theorem own_below{W w w':World}{E:TypeId}{k:Nat}{s:Sl}{rows:List (Array Value)}(h:Own w W.heap.size E k s rows)(hb:Below W.heap.size W w)(hg:w.grownBy w' s.blk):Below W.heap.size W w':=hb.grown hg hb.size (fun _ e=>(h.base e).1)
end Go.WW
namespace Go.Proofs.YtpfifochimkpfaaGreatDoor
open Go.RowKit Go.WW
theorem MX(r:aK)(d:Entry)(w:World)(he:aS w r d):Calls Tryz.prog 7 #[.agg (ae r d)] w (aii w):=by
 have hB:Below w.heap.size w (w.alloc (.cells (ae r d) 44)):=(Below.refl _ _).alloc (Nat.le_refl _) _
 obtain⟨rA,lA,sA,qA⟩:=bH.src he.aliases Fh
 obtain⟨rT,lT,sT,qT⟩:=bH.src he.targets Fh
 obtain⟨rD,lD,sD,qD⟩:=bH.src he.bW Fh
 have nA:d.aliases.length≤4294967000:=he.aliases.1
 have nT:d.targets.length≤4294967000:=he.targets.1
 have nD:d.bW.length≤4294967000:=he.bW.1
 have nK:d.keys.length≤4294967000:=he.keys.1
 have nP:d.aP.size≤4294967000:=he.aP
 have nH:d.history.length≤4294967000:=he.history.1
 have LA:=Lib.hid lA
 have LT:=Lib.hid lT
 have LD:=Lib.hid lD
 have QA:=Lib.hid qA
 have QT:=Lib.hid qT
 have QD:=Lib.hid qD
 clear lA lT lD qA qT qD
 go_enter Tryz.func7,Tryz.ntmps7
 go_wp2_with fail
 refine nz (Below.refl _ (w.alloc (.cells (ae r d) 44))) (by kernel_rfl) (by kernel_rfl) ?_
 intro w1 hb1
 obtain⟨hc,hf,hr⟩:=aQ hb1
 have hsz:w.heap.size<w1.heap.size:=by have:=hb1.size;simp at this;omega
 repeat (first|(refine ai (by rfl) ?_)|(refine au (by rfl) (by rfl) (fun K hK=>?_);go_big_quiet_op;refine hK _ ?_;clear hK K))
 refine aB (by rfl) (by rfl) (fun K hK=>?_)
 go_wp2_with fail
 have hb2:=ay hb1 (.cells (az r.parts d.name) 35)
 have hown:Go.WW.Own (w1.alloc (.cells (az r.parts d.name) 35)) (w.alloc (.cells (ae r d) 44)).heap.size 35 2 ⟨some ⟨w1.heap.size,0,none⟩,1⟩ [az r.parts d.name]:=by
  have h:=Own.one w1 (az r.parts d.name) 35 2 (ER _ _)
  exact⟨⟨h.own.1,h.own.2.imp id fun⟨g,cap,cur,h1,h2,h3⟩=>⟨g,cap,cur,h1,Nat.le_trans hb1.size h2,h3⟩⟩,h.size⟩
 refine hK _ _ (aj hb2) ?_
 clear hK K
 repeat (first|(refine ai (by rfl) ?_)|(refine au (by rfl) (by rfl) (fun K hK=>?_);go_big_quiet_op;refine hK _ ?_;clear hK K))
 refine aB (by rfl) (by rfl) (fun K hK=>?_)
 refine MW (.tmp 9) (.tmp 11) _ rfl FW (n:=1) (s:=⟨some ⟨w1.heap.size,0,none⟩,1⟩) rfl rfl hown rfl LA.out.symm (sA.later (ag hB hb2)) (by rw[LA.out];simp;omega) (by have:=hb2.size;exact this) ?_
 intro s3 w3 hown3 hg3 iD
 have hb3:=own_below hown hb2 hg3
 go_wp2_with fail
 refine hK _ _ (aj hb3) ?_
 clear hK K
 repeat (first|(refine ai (by rfl) ?_)|(refine au (by rfl) (by rfl) (fun K hK=>?_);go_big_quiet_op;refine hK _ ?_;clear hK K))
 refine aB (by rfl) (by rfl) (fun K hK=>?_)
 refine MW (.tmp 12) (.tmp 14) _ rfl FW (n:=1+d.aliases.length) (s:=s3) rfl (by have:=LA.out;simp[this];omega) hown3 rfl LT.out.symm (sT.later (ag hB hb3)) (by have:=LA.out;rw[LT.out];simp[this];omega) (by have:=hb3.size;exact this) ?_
 intro s4 w4 hown4 hg4 Fj
 have hb4:=own_below hown3 hb3 hg4
 go_wp2_with fail
 refine hK _ _ (aj hb4) ?_
 clear hK K
 repeat (first|(refine ai (by rfl) ?_)|(refine au (by rfl) (by rfl) (fun K hK=>?_);go_big_quiet_op;refine hK _ ?_;clear hK K))
 refine aB (by rfl) (by rfl) (fun K hK=>?_)
 refine MW (.tmp 15) (.tmp 17) _ rfl FW (n:=1+d.aliases.length+d.targets.length) (s:=s4) rfl (by have:=LA.out;have:=LT.out;simp[*];omega) hown4 rfl LD.out.symm (sD.later (ag hB hb4)) (by have h1:=LA.out;have h2:=LT.out;rw[LD.out];simp[h1,h2];omega) (by have:=hb4.size;exact this) ?_
 intro s5 w5 hown5 hg5 aij
 have hb5:=own_below hown4 hb4 hg5
 go_wp2_with fail
 refine hK _ _ (aj hb5) ?_
 clear hK K
 repeat (first|(refine ai (by rfl) ?_)|(refine au (by rfl) (by rfl) (fun K hK=>?_);go_big_quiet_op;refine hK _ ?_;clear hK K))
 refine bz ?_
 have lU:=ag hB hb5
 have hBW:Below (w.alloc (.cells (ae r d) 44)).heap.size (w.alloc (.cells (ae r d) 44)) w5:=hb5
 obtain⟨N,hN⟩:∃N,N=1+d.aliases.length+d.targets.length+d.bW.length:=⟨_,rfl⟩
 rw[←hN]
 have hlr:((([az r.parts d.name]++rA)++rT)++rD).length=N:=by have h1:=LA.out;have h2:=LT.out;have h3:=LD.out;simp[h1,h2,h3];omega
 have lS:=Lib.hid hlr
 have HN:=Lib.hid hN
 clear hlr hN hc hf hr hsz hown hown3 hown4 hg3 hg4 hg5 iD Fj aij
 obtain⟨hc,hf,hr⟩:=aQ hBW
 have hsz:w.heap.size<w5.heap.size:=by have:=hBW.size;simp at this;omega
 by_cases hbig:13<N
 ·have hbig':(13:Int)<(N:Int):=by omega
  go_wp2_with fail
  all_goals go_ret
  all_goals exact⟨_,rfl,lU⟩
 have hbig':¬(13:Int)<(N:Int):=by omega
 have hall:∀cs∈(([az r.parts d.name]++rA)++rT)++rD,∃p s,cs=az s p∧bK w5 s p:=by
  intro cs hcs
  simp only[List.mem_append,List.mem_singleton]at hcs
  rcases hcs with((rfl|h)|h)|h
  ·exact⟨d.name,r.parts,rfl,he.name.later lU⟩
  ·obtain⟨i,hi,rfl⟩:=List.mem_iff_getElem.1 h
   obtain⟨p,s,_,e,hp⟩:=QA.out i hi
   exact⟨p,s,e,hp.later lU⟩
  ·obtain⟨i,hi,rfl⟩:=List.mem_iff_getElem.1 h
   obtain⟨p,s,_,e,hp⟩:=QT.out i hi
   exact⟨p,s,e,hp.later lU⟩
  ·obtain⟨i,hi,rfl⟩:=List.mem_iff_getElem.1 h
   obtain⟨p,s,_,e,hp⟩:=QD.out i hi
   exact⟨p,s,e,hp.later lU⟩
 have hP:bH w5 2 s5.a N (fun _ cs=>∃p s,cs=az s p∧bK w5 s p):=bH.iM hown5 lS.out (by unfold lim;omega) (fun i hi=>hall _ (List.getElem_mem hi))
 have hN1:0<N:=by have:=HN.out;omega
 obtain⟨g,o,-,ha,-⟩:=hP.2 0 hN1
 obtain⟨s5a,s5c⟩:=s5
 dsimp only at ha
 subst ha
 have hrows:∀k,k<N→∃p s,w5.cell? ⟨g,o+k*2,none⟩=some (.slice s.a p.parts.length s.cap)∧w5.cell? ⟨g,o+k*2+1,none⟩=some (.string p.aJ)∧bK w5 s p:=fun k hk=>by
  obtain⟨b',o',cs,ha',hr',p,s,rfl,hp⟩:=hP.2 k hk
  cases ha'
  exact⟨p,s,by have:=ji hr' 0 (by omega);simpa[go_sem]using this,by have:=ji hr' 1 (by omega);simpa[go_sem]using this,hp⟩
 have HR:=Lib.hid hrows
 have hkeys:=he.keys.later lU
 clear hrows hP hall hown5
 go_wp2_with fail
 all_goals first
  |(go_ret;exact⟨_,rfl,lU⟩)
  |skip
 go_loop [4] (fun i=>∃k:Nat,k≤N∧i=.int .i64 k) (fun i=>N-(intOf i).toNat)
 case atStart=>exact⟨0,Nat.zero_le _,rfl⟩
 case round=>
  obtain⟨k,hk,rfl⟩:=hrel
  by_cases hlt:k<N
  ·obtain⟨p,s,hq0,hq1,hp⟩:=HR.out k hlt
   have hpl:p.parts.length≤4294967000:=hp.1.1
   have hpr:p.aJ.size≤4294967000:=hp.2
   have hgb:g<w5.heap.size:=World.block_lt_of_cell? w5 _ hq0
   have anX:(k:Int)<(N:Int):=by omega
   go_wp2_with fail
   all_goals first
    |(go_ret;exact⟨_,rfl,lU⟩)
    |skip
   go_loop [5] (fun i=>∃j:Nat,j≤p.parts.length∧i=.int .i64 j) (fun i=>p.parts.length-(intOf i).toNat)
   case atStart=>exact⟨0,Nat.zero_le _,rfl⟩
   case round=>
    obtain⟨j,hj,rfl⟩:=hrel
    by_cases hjt:j<p.parts.length
    ·obtain⟨b2,o2,ha2,hc2,hs2⟩:=hp.1.get j hjt
     have hs2':p.parts[j].size≤4294967000:=hs2
     have aik:b2<w5.heap.size:=World.block_lt_of_cell? w5 _ hc2
     rw[ha2]at hq0
     go_wp2_with fail
     all_goals first
      |(go_ret;exact⟨_,rfl,lU⟩)
      |(go_round
        case rel=>exact⟨j+1,by omega,by go_num⟩
        case measure=>simp[intOf];omega)
    ·go_wp2_with fail
     go_round
     case rel=>exact⟨k+1,by omega,by go_num⟩
     case measure=>simp[intOf];omega
  ·go_wp2_with fail
   go_loop [6] (fun i=>∃k:Nat,k≤d.keys.length∧i=.int .i64 k) (fun i=>d.keys.length-(intOf i).toNat)
   case atStart=>exact⟨0,Nat.zero_le _,rfl⟩
   case round=>
    obtain⟨j,hj,rfl⟩:=hrel
    by_cases hjt:j<d.keys.length
    ·obtain⟨b2,o2,s2,ha2,hr2,hs2⟩:=hkeys.get j hjt
     have aik:b2<w5.heap.size:=fA hr2
     have hy1:w5.cell? ⟨b2,o2+j*5+1,none⟩=some (.slice s2.a d.keys[j].keys.length s2.cap):=by have:=ji hr2 1 (by omega);simpa[go_sem]using this
     have hy2:w5.cell? ⟨b2,o2+j*5+2,none⟩=some (.string d.keys[j].dK):=by have:=ji hr2 2 (by omega);simpa[go_sem]using this
     have hkl:d.keys[j].keys.length≤4294967000:=hs2.1.1
     have hsl:d.keys[j].dK.size≤4294967000:=hs2.2
     go_wp2_with fail
     all_goals first
      |(go_ret;exact⟨_,rfl,lU⟩)
      |(go_round
        case rel=>exact⟨j+1,by omega,by go_num⟩
        case measure=>simp[intOf];omega)
    ·go_wp2_with fail
     go_ret
     exact⟨_,rfl,lU⟩
end Go.Proofs.YtpfifochimkpfaaGreatDoor
