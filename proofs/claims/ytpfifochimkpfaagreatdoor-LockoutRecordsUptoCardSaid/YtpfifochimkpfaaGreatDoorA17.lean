/- A part of the proof. -/
import Derived.Test.YtpfifochimkpfaaGreatDoorA16
import Derived.Test.YtpfifochimkpfaaGreatDoorA10
import Derived.Test.YtpfifochimkpfaaGreatDoorA11
import Derived.Test.YtpfifochimkpfaaGreatDoorA05
import Derived.Test.YtpfifochimkpfaaGreatDoorA06
import Derived.Test.YtpfifochimkpfaaGreatDoorA12
set_option maxRecDepth 100000
set_option maxHeartbeats 4000000
namespace Go.WW
open Go.RowKit
theorem agc{P:Program}{ops:Array Oper}{S:World→Prop}{st:Oper→Bool}{Q:Act→World→Prop}{o:Oper}{rest:List Oper}{a:Act}{w:World}(hw:Region.wanted o (yielded ops a.tmps)=false)(hs:a.put o.dst undef=a)(h:aG P ops st S Q rest a w):aG P ops st S Q (o::rest) a w:=
 ai hw (by rw[hs];exact h)
theorem Dv{P:Program}{id:Nat}{Q':Exit→Act→World→Prop}{a:Act}{W w:World}{l:List Oper}(x c:Nat)(idx:List Nat)(hW:Below W.heap.size W w)(hm:P.follows .mixedOrders=true)(hB:C9 iJ l.toArray x c=true)(hi:mv x c (List.range l.toArray.size)=idx)
  (h:∀w1,Below W.heap.size W w1→aG P l.toArray iJ (since W) (fun a' w'=>Q' .normal a' w') l a w1)
  (h2:∀w1,Below W.heap.size W w1→aG P l.toArray iJ (since W) (fun a' w'=>Q' .normal a' w') (pick l idx) a w1):(Code.region id l.toArray true).wp P Q' a w:=
 Tu (since W) iJ x c idx hm hB hi ⟨⟨w.drew,hW.drew⟩,rfl⟩ (h _ hW.drew) (h2 _ hW.drew)
def ed(L:List (ByteArray×ByteArray)):List (ByteArray×Value):=L.map fun x=>(x.1,Value.string x.2)
def Gx(L:List (ByteArray×ByteArray))(d:Entry):Prop:=∃q∈d.name::d.aliases,∃o,(textOf q,o)∈L∧o≠textOf d.name
def tY(L:List (ByteArray×ByteArray))(k:ByteArray)(ps:List aH):Prop:=∀q∈ps,∀o,(textOf q,o)∈L→o=k
theorem Uk{L:List (ByteArray×ByteArray)}{k:ByteArray}{ps:List aH}{q:aH}(h:tY L k ps)(hq:∀o,(textOf q,o)∈L→o=k):tY L k (ps++[q]):=by
 intro x hx
 rcases List.mem_append.1 hx with hx|hx
 ·exact h x hx
 ·obtain rfl:x=q:=by simpa using hx
  exact hq
theorem agd{L:List (ByteArray×ByteArray)}{k:ByteArray}(h:∀o,(k,o)∉L):k∉(ed L).map (·.1):=by
 intro hk
 simp only[ed,List.map_map,List.mem_map,Function.comp]at hk
 obtain⟨⟨a,o⟩,hx,rfl⟩:=hk
 exact h o hx
end Go.WW
namespace Go.Proofs.YtpfifochimkpfaaGreatDoor
open Go.RowKit Go.WW
def tZ(w:World)(b:Nat)(r:aK)(d:Entry):World:=((w.alloc (.cells #[.pointer (some ⟨b,0,none⟩)] 28)).alloc (.cells (ae r d) 44)).alloc (.cells #[.int .i64 0] 45)
theorem Gy(w:World)(b:Nat)(r:aK)(d:Entry):Below w.heap.size w (tZ w b r d)∧(tZ w b r d).heap[w.heap.size]?=some (.cells #[.pointer (some ⟨b,0,none⟩)] 28)∧(tZ w b r d).heap[w.heap.size+1]?=some (.cells (ae r d) 44)∧(tZ w b r d).heap[w.heap.size+1+1]?=some (.cells #[.int .i64 0] 45)∧(tZ w b r d).heap.size=w.heap.size+1+1+1:=by
 unfold tZ
 refine⟨ay (ay ((Below.refl _ _).alloc (Nat.le_refl _) _) _) _,?_,?_,?_,by simp⟩
 ·rw[Below.heap_alloc _ _ _ (by simp;omega)];exact kS _ _ _
 ·rw[Below.heap_alloc _ _ _ (by simp)]
  have:=World.alloc_heap_new (w.alloc (.cells #[.pointer (some ⟨b,0,none⟩)] 28)) (.cells (ae r d) 44)
  rwa[World.size_alloc]at this
 ·have:=World.alloc_heap_new ((w.alloc (.cells #[.pointer (some ⟨b,0,none⟩)] 28)).alloc (.cells (ae r d) 44)) (.cells #[.int .i64 0] 45)
  simpa using this
theorem age{w:World}{n:Nat}{L:List (ByteArray×ByteArray)}(h:MapOf w n (ed L)){k o:ByteArray}(hx:(k,o)∈L):(Instr.lookup 94 (.map (some n)) (.string k) true).run Tryz.prog w=.ok (.tuple #[.string o,.bool true]) w:=by
 have:=EU (P:=Tryz.prog) true Tryz.underlying94 Tryz.underlying9 h (List.mem_map.2 ⟨(k,o),hx,rfl⟩)
 exact this
theorem agf{w:World}{n:Nat}{L:List (ByteArray×ByteArray)}(h:MapOf w n (ed L)){k:ByteArray}(hx:∀o,(k,o)∉L):(Instr.lookup 94 (.map (some n)) (.string k) true).run Tryz.prog w=.ok (.tuple #[.string ⟨#[]⟩,.bool false]) w:=by
 have:=EW (P:=Tryz.prog) (z:=.string ⟨#[]⟩) true Tryz.underlying94 Tryz.underlying9 h (by kernel_rfl) (agd hx)
 simpa using this
theorem agh(E:List EE)(k:ByteArray):∃(r0:aK) (d0:Entry) (ok:Bool),∀(w:World) (e:Nat),MapOf w e (E.map fun x=>(textOf x.2.name,Value.agg (cZ x)))→(Instr.lookup 95 (.map (some e)) (.string k) true).run Tryz.prog w=.ok (.tuple #[.agg (ae r0 d0),.bool ok]) w:=by
 by_cases h:∃x∈E,textOf x.2.name=k
 ·obtain⟨x,hx,rfl⟩:=h
  exact⟨x.1,x.2,true,fun w e hm=>Gv hm x hx⟩
 ·exact⟨bg,aV,false,fun w e hm=>Gw hm k (fun x hx e'=>h ⟨x,hx,e'⟩)⟩
theorem agi(P:List ah)(k:ByteArray):∃(q0:ah) (ok:Bool),(∀(w:World) (p:Nat),MapOf w p (P.map fun q=>(q.name,Value.agg (ak q)))→(Instr.lookup 96 (.map (some p)) (.string k) true).run Tryz.prog w=.ok (.tuple #[.agg (ak q0),.bool ok]) w)∧ok=P.any (fun x=>decide (x.name=k)):=by
 cases h:P.any (fun x=>decide (x.name=k))with
 |true=>
  obtain⟨q,hq,e⟩:=List.any_eq_true.1 h
  have e':q.name=k:=by simpa using e
  subst e'
  exact⟨q,true,fun w p hm=>KF hm q hq,rfl⟩
 |false=>exact⟨dE,false,fun w p hm=>KG hm k h,rfl⟩
attribute [local irreducible] aG
theorem Ul(b n e p:Nat)(re:ByteArray)(s:Int)(N:List (ByteArray×Value))(E:List EE)(P:List ah)(r:aK)(d:Entry)(w:World)(h:dG w b n e p re s N E P)(hre:¬re=⟨#[]⟩)(he:aS w r d)(hv:bI d=false) :
  Calls Tryz.prog 31 #[.pointer (some ⟨b,0,none⟩),.agg (ae r d)] w fun q w'=>q=.returned (.int .i64 2)∧Below w.heap.size w w':=by
 obtain⟨hB,ht,jm,hr4,hsz⟩:=Gy w b r d
 go_enter Tryz.func31,Tryz.ntmps31
 go_wp2_with fail
 have he':=he.later hB
 have h':=h.later hB
 unfold tZ at hB ht jm hr4 hsz he' h'
 generalize ((w.alloc (.cells #[.pointer (some ⟨b,0,none⟩)] 28)).alloc (.cells (ae r d) 44)).alloc (.cells #[.int .i64 0] 45)=W at *
 obtain⟨c0,c1,c2,c3,c4,f1,hl⟩:=gm h'.box
 refine(nI _ _ _ c0 hre).mono ?_
 rintro x w' ⟨rfl,rfl⟩
 dsimp only
 have mQ:row? W (w.heap.size+1) 0 17=some (ae r d):=by rw[dI jm];exact gI (by simp[go_sem])
 have kN:=(ax jm).1
 have hct:W.cell? ⟨w.heap.size,0,none⟩=some (.pointer (some ⟨b,0,none⟩)):=(ax ht).1 0
 have hc4:W.cell? ⟨w.heap.size+1+1,0,none⟩=some (.int .i64 0):=(ax hr4).1 0
 have hf4:=(ax hr4).2.1
 have l0:w.heap.size<W.heap.size:=by omega
 have l1:w.heap.size+1<W.heap.size:=by omega
 have l2:w.heap.size+1+1<W.heap.size:=by omega
 clear hsz
 go_wp2_with fail
 refine sU (Below.refl _ W) (by kernel_rfl) (by kernel_rfl) ?_
 intro w1 hb1
 repeat (first|(refine ai (by rfl) ?_)|(refine bC (by rfl) (by rfl) (fun K hK=>?_);go_big_quiet_op;refine hK _ ?_;clear hK K))
 refine bZ (by rfl) (by rfl) (fun K hK=>?_)
 go_wp2_with fail
 refine(yE r d w1 (he'.later hb1)).mono ?_
 rintro q w2 ⟨rfl,hb2⟩
 rw[hv]
 dsimp only
 have hb2':=ag hb1 hb2
 refine hK _ _ (aj hb2') ?_
 clear hK K
 iterate 2 (refine bC (by kernel_rfl) (by kernel_rfl) (fun K hK=>?_);go_big_quiet_op;refine hK _ ?_;clear hK K)
 iterate 9 (refine agc (by kernel_rfl) (by kernel_rfl) ?_)
 iterate 1 (refine bC (by kernel_rfl) (by kernel_rfl) (fun K hK=>?_);go_big_quiet_op;refine hK _ ?_;clear hK K)
 refine bz ?_
 have Um:w2.cell? ⟨w.heap.size,0,none⟩=some (.pointer (some ⟨b,0,none⟩)):=(hb2'.cell l0).trans hct
 have Un:w2.cell? ⟨w.heap.size+1+1,0,none⟩=some (.int .i64 0):=(hb2'.cell l2).trans hc4
 have Uo:w2.frozen? ⟨w.heap.size+1+1,0,none⟩=false:=(hb2'.frozen l2).trans (hf4 0)
 have xu:w2.heap[w.heap.size+1+1]?=some (.cells #[.int .i64 0] 45):=(hb2'.block _ l2).trans hr4
 have Ur:w.heap.size+1+1<w2.heap.size:=(Array.getElem?_eq_some_iff.1 xu).1
 go_wp2_with fail
 have hset:=dH (o:=0) (.int .i64 2) xu
 have hfc:(w2.setCell ⟨w.heap.size+1+1,0,none⟩ (.int .i64 2)).cell? ⟨w.heap.size+1+1,0,none⟩=some (.int .i64 2):=(ax hset).1 0
 refine bodyPost_ret (v:=.int .i64 2) (by simp[results,Tryz.results31,go_sem,hfc]) rfl ?_
 exact⟨rfl,(ag hB hb2').setCell (show w.heap.size≤w.heap.size+1+1 by omega) _⟩
theorem agj(b n e p:Nat)(re:ByteArray)(s:Int)(N:List (ByteArray×Value))(E:List EE)(P:List ah)(r:aK)(d:Entry)(w:World)(h:dG w b n e p re s N E P)(hre:¬re=⟨#[]⟩)(he:aS w r d)(hv:bI d=true)(hrl:¬d.name.aJ=re) :
  Calls Tryz.prog 31 #[.pointer (some ⟨b,0,none⟩),.agg (ae r d)] w fun q w'=>q=.returned (.int .i64 2)∧Below w.heap.size w w':=by
 have Us:=kJ _ _ hrl
 obtain⟨hB,ht,jm,hr4,hsz⟩:=Gy w b r d
 go_enter Tryz.func31,Tryz.ntmps31
 go_wp2_with fail
 have he':=he.later hB
 have h':=h.later hB
 unfold tZ at hB ht jm hr4 hsz he' h'
 generalize ((w.alloc (.cells #[.pointer (some ⟨b,0,none⟩)] 28)).alloc (.cells (ae r d) 44)).alloc (.cells #[.int .i64 0] 45)=W at *
 obtain⟨c0,c1,c2,c3,c4,f1,hl⟩:=gm h'.box
 refine(nI _ _ _ c0 hre).mono ?_
 rintro x w' ⟨rfl,rfl⟩
 dsimp only
 have mQ:row? W (w.heap.size+1) 0 17=some (ae r d):=by rw[dI jm];exact gI (by simp[go_sem])
 have kN:=(ax jm).1
 have hct:W.cell? ⟨w.heap.size,0,none⟩=some (.pointer (some ⟨b,0,none⟩)):=(ax ht).1 0
 have hc4:W.cell? ⟨w.heap.size+1+1,0,none⟩=some (.int .i64 0):=(ax hr4).1 0
 have hf4:=(ax hr4).2.1
 have l0:w.heap.size<W.heap.size:=by omega
 have l1:w.heap.size+1<W.heap.size:=by omega
 have l2:w.heap.size+1+1<W.heap.size:=by omega
 clear hsz
 go_wp2_with fail
 refine sU (Below.refl _ W) (by kernel_rfl) (by kernel_rfl) ?_
 intro w1 hb1
 repeat (first|(refine ai (by rfl) ?_)|(refine bC (by rfl) (by rfl) (fun K hK=>?_);go_big_quiet_op;refine hK _ ?_;clear hK K))
 refine bZ (by rfl) (by rfl) (fun K hK=>?_)
 go_wp2_with fail
 refine(yE r d w1 (he'.later hb1)).mono ?_
 rintro q w2 ⟨rfl,hb2⟩
 rw[hv]
 dsimp only
 have hb2':=ag hb1 hb2
 refine hK _ _ (aj hb2') ?_
 clear hK K
 iterate 12 (refine bC (by kernel_rfl) (by kernel_rfl) (fun K hK=>?_);go_big_quiet_op;refine hK _ ?_;clear hK K)
 refine bz ?_
 have Um:w2.cell? ⟨w.heap.size,0,none⟩=some (.pointer (some ⟨b,0,none⟩)):=(hb2'.cell l0).trans hct
 have Un:w2.cell? ⟨w.heap.size+1+1,0,none⟩=some (.int .i64 0):=(hb2'.cell l2).trans hc4
 have Uo:w2.frozen? ⟨w.heap.size+1+1,0,none⟩=false:=(hb2'.frozen l2).trans (hf4 0)
 have xu:w2.heap[w.heap.size+1+1]?=some (.cells #[.int .i64 0] 45):=(hb2'.block _ l2).trans hr4
 have Ur:w.heap.size+1+1<w2.heap.size:=(Array.getElem?_eq_some_iff.1 xu).1
 go_wp2_with fail
 have hset:=dH (o:=0) (.int .i64 2) xu
 have hfc:(w2.setCell ⟨w.heap.size+1+1,0,none⟩ (.int .i64 2)).cell? ⟨w.heap.size+1+1,0,none⟩=some (.int .i64 2):=(ax hset).1 0
 refine bodyPost_ret (v:=.int .i64 2) (by simp[results,Tryz.results31,go_sem,hfc]) rfl ?_
 exact⟨rfl,(ag hB hb2').setCell (show w.heap.size≤w.heap.size+1+1 by omega) _⟩
theorem agk(b n e p:Nat)(re:ByteArray)(s:Int)(N:List (ByteArray×Value))(E:List EE)(P:List ah)(r:aK)(d:Entry)(w:World)(h:dG w b n e p re s N E P)(hre:¬re=⟨#[]⟩)(he:aS w r d)(hv:bI d=true)(hrl:d.name.aJ=re)(hpe:¬d.aP=⟨#[]⟩)(hP:P.any (fun x=>decide (x.name=d.aP))=false) :
  Calls Tryz.prog 31 #[.pointer (some ⟨b,0,none⟩),.agg (ae r d)] w fun q w'=>q=.returned (.int .i64 9)∧Below w.heap.size w w':=by
 have Us:=str_eq _ _ hrl
 have hp0:=kJ _ _ hpe
 have hp1:¬d.aP.toList=[]:=fun h=>hpe (toList_inj (b:=⟨#[]⟩) (by rw[h,ByteArray.toList_eq]))
 have hp2:d.aP.toList.isEmpty=false:=by cases h:d.aP.toList<;>simp_all
 obtain⟨hB,ht,jm,hr4,hsz⟩:=Gy w b r d
 go_enter Tryz.func31,Tryz.ntmps31
 go_wp2_with fail
 have he':=he.later hB
 have h':=h.later hB
 unfold tZ at hB ht jm hr4 hsz he' h'
 generalize ((w.alloc (.cells #[.pointer (some ⟨b,0,none⟩)] 28)).alloc (.cells (ae r d) 44)).alloc (.cells #[.int .i64 0] 45)=W at *
 obtain⟨c0,c1,c2,c3,c4,f1,hl⟩:=gm h'.box
 refine(nI _ _ _ c0 hre).mono ?_
 rintro x w' ⟨rfl,rfl⟩
 dsimp only
 have mQ:row? W (w.heap.size+1) 0 17=some (ae r d):=by rw[dI jm];exact gI (by simp[go_sem])
 have kN:=(ax jm).1
 have hct:W.cell? ⟨w.heap.size,0,none⟩=some (.pointer (some ⟨b,0,none⟩)):=(ax ht).1 0
 have hc4:W.cell? ⟨w.heap.size+1+1,0,none⟩=some (.int .i64 0):=(ax hr4).1 0
 have hf4:=(ax hr4).2.1
 have l0:w.heap.size<W.heap.size:=by omega
 have l1:w.heap.size+1<W.heap.size:=by omega
 have l2:w.heap.size+1+1<W.heap.size:=by omega
 clear hsz
 go_wp2_with fail
 refine sU (Below.refl _ W) (by kernel_rfl) (by kernel_rfl) ?_
 intro w1 hb1
 repeat (first|(refine ai (by rfl) ?_)|(refine bC (by rfl) (by rfl) (fun K hK=>?_);go_big_quiet_op;refine hK _ ?_;clear hK K))
 refine bZ (by rfl) (by rfl) (fun K hK=>?_)
 go_wp2_with fail
 refine(yE r d w1 (he'.later hb1)).mono ?_
 rintro q w2 ⟨rfl,hb2⟩
 rw[hv]
 dsimp only
 have hb2':=ag hb1 hb2
 refine hK _ _ (aj hb2') ?_
 clear hK K
 iterate 12 (refine bC (by kernel_rfl) (by kernel_rfl) (fun K hK=>?_);go_big_quiet_op;refine hK _ ?_;clear hK K)
 refine bz ?_
 have h2:=h'.later hb2'
 have hlk:∀x:Later w2,(Instr.lookup 96 (.map (some p)) (.string d.aP) true).run Tryz.prog x.w=.ok (.tuple #[.agg (ak dE),.bool false]) x.w:=fun x=>KG (h2.pm.at (x.b.block p h2.pm.lt)) _ hP
 have ht2:=aI hb2' ht
 have he2:=aI hb2' jm
 have hr2:=aI hb2' hr4
 clear c0 c1 c2 c3 c4 f1 hl mQ kN hct hc4 hf4
 obtain⟨c0,c1,c2,c3,c4,f1,hl⟩:=gm h2.box
 have kN:=(ax he2).1
 have hct:w2.cell? ⟨w.heap.size,0,none⟩=some (.pointer (some ⟨b,0,none⟩)):=(ax ht2).1 0
 have m0:w.heap.size<w2.heap.size:=(Array.getElem?_eq_some_iff.1 ht2).1
 have m1:w.heap.size+1<w2.heap.size:=(Array.getElem?_eq_some_iff.1 he2).1
 go_wp2_with fail
 refine sU (Below.refl _ w2) (by kernel_rfl) (by kernel_rfl) ?_
 intro w3 hb3
 iterate 11 (refine bC (by kernel_rfl) (by kernel_rfl) (fun K hK=>?_);go_big_quiet_op;refine hK _ ?_;clear hK K)
 refine bZ (by rfl) (by rfl) (fun K hK=>?_)
 go_wp2_with fail
 refine hK _ _ (aj (ay hb3 _)) ?_
 clear hK K
 refine bZ (by rfl) (by rfl) (fun K hK=>?_)
 go_wp2_with fail
 refine hK _ _ (aj (ay hb3 (.cells (ak dE) 52))) ?_
 clear hK K
 iterate 1 (refine bC (by kernel_rfl) (by kernel_rfl) (fun K hK=>?_);go_big_quiet_op;refine hK _ ?_;clear hK K)
 refine bz ?_
 have hb4:=ay hb3 (.cells (ak dE) 52)
 clear hb3 hlk
 generalize (w3.alloc (.cells (ak dE) 52))=V at *
 have iV:=ag hb2' hb4
 have ani:V.cell? ⟨w.heap.size+1,6,none⟩=some (.string d.aP):=(ax (aI iV jm)).1 6
 have m1V:w.heap.size+1<V.heap.size:=by have:=hb4.size;omega
 have hc4:W.cell? ⟨w.heap.size+1+1,0,none⟩=some (.int .i64 0):=(ax hr4).1 0
 have hf4:=(ax hr4).2.1
 have hct:=(ax ht).1 0
 have Um:V.cell? ⟨w.heap.size,0,none⟩=some (.pointer (some ⟨b,0,none⟩)):=(iV.cell l0).trans hct
 have Un:V.cell? ⟨w.heap.size+1+1,0,none⟩=some (.int .i64 0):=(iV.cell l2).trans hc4
 have Uo:V.frozen? ⟨w.heap.size+1+1,0,none⟩=false:=(iV.frozen l2).trans (hf4 0)
 have xu:V.heap[w.heap.size+1+1]?=some (.cells #[.int .i64 0] 45):=(iV.block _ l2).trans hr4
 have Ur:w.heap.size+1+1<V.heap.size:=(Array.getElem?_eq_some_iff.1 xu).1
 go_wp2_with fail
 have hset:=dH (o:=0) (.int .i64 9) xu
 have hfc:(V.setCell ⟨w.heap.size+1+1,0,none⟩ (.int .i64 9)).cell? ⟨w.heap.size+1+1,0,none⟩=some (.int .i64 9):=(ax hset).1 0
 refine bodyPost_ret (v:=.int .i64 9) (by simp[results,Tryz.results31,go_sem,hfc]) rfl ?_
 exact⟨rfl,(ag hB iV).setCell (show w.heap.size≤w.heap.size+1+1 by omega) _⟩
end Go.Proofs.YtpfifochimkpfaaGreatDoor
namespace Go.Proofs.YtpfifochimkpfaaGreatDoor
open Go.RowKit Go.WW
attribute [local go_sem] Oper.semAt_some
attribute [local irreducible] aG
def Ut(b n e p:Nat)(re:ByteArray)(s:Int)(NL:List (ByteArray×ByteArray))(N1:List (ByteArray×Value))(E1:List EE)(P:List ah)(d:Entry)(w:World)(q:Ending)(w':World):Prop:=
 (q=.returned (.int .i64 11)∧Gx NL d∧Below w.heap.size w w')∨
 (q=.returned (.int .i64 0)∧tY NL (textOf d.name) (d.name::d.aliases)∧But (aW b n e p) w w'∧∃r',lG (fun k=>k<w.heap.size) w' (r',d)∧dG w' b n e p re (s+1) (rC N1 (textOf d.name) (d.name::d.aliases)) (E1++[(r',d)]) P)
theorem nN{w:World}{b n e p:Nat}{re:ByteArray}{s:Int}{N:List (ByteArray×Value)}{E:List EE}{P:List ah}(h:dG w b n e p re s N E P):∀k,w.heap.size≤k→¬aW b n e p k:=fun k hk hd=>by
 have q1:=(Array.getElem?_eq_some_iff.1 h.box).1
 have q2:=h.nm.lt
 have q3:=h.em.lt
 have q4:=h.pm.lt
 rcases hd with rfl|rfl|rfl|rfl<;>omega
theorem A8{w W V:World}{b n e p:Nat}{re:ByteArray}{s:Int}{N:List (ByteArray×Value)}{E:List EE}{P:List ah}{r:aK}{d:Entry}(hb:Below W.heap.size W V)(ht:W.heap[w.heap.size]?=some (.cells #[.pointer (some ⟨b,0,none⟩)] 28))(jm:W.heap[w.heap.size+1]?=some (.cells (ae r d) 44))(hr4:W.heap[w.heap.size+1+1]?=some (.cells #[.int .i64 0] 45))(h':dG W b n e p re s N E P) :
  V.heap[w.heap.size]?=some (.cells #[.pointer (some ⟨b,0,none⟩)] 28)∧V.heap[w.heap.size+1]?=some (.cells (ae r d) 44)∧V.heap[w.heap.size+1+1]?=some (.cells #[.int .i64 0] 45)∧dG V b n e p re s N E P∧w.heap.size<V.heap.size∧w.heap.size+1<V.heap.size∧w.heap.size+1+1<V.heap.size∧(V.cell? ⟨b,0,none⟩=some (.string re)∧V.cell? ⟨b,1,none⟩=some (.int .i64 s)∧V.cell? ⟨b,2,none⟩=some (.map (some n))∧V.cell? ⟨b,3,none⟩=some (.map (some e))∧V.cell? ⟨b,4,none⟩=some (.map (some p))∧V.frozen? ⟨b,1,none⟩=false∧b<V.heap.size)∧row? V (w.heap.size+1) 0 17=some (ae r d)∧row? V (w.heap.size+1) 0 2=some (az r.parts d.name)∧(∀o,V.cell? ⟨w.heap.size+1,o,none⟩=(ae r d)[o]?)∧V.cell? ⟨w.heap.size,0,none⟩=some (.pointer (some ⟨b,0,none⟩))∧V.cell? ⟨w.heap.size+1+1,0,none⟩=some (.int .i64 0)∧V.frozen? ⟨w.heap.size+1+1,0,none⟩=false:=
 have t:=aI hb ht
 have e:=aI hb jm
 have r:=aI hb hr4
 have h:=h'.later hb
 have q:row? V (w.heap.size+1) 0 17=some _:=by rw[dI e];exact gI (by simp[go_sem])
 ⟨t,e,r,h,(ax t).2.2.2,(ax e).2.2.2,(ax r).2.2.2,gm h.box,q,uY q,(ax e).1,(ax t).1 0,(ax r).1 0,(ax r).2.1 0⟩
theorem agl(b n e p:Nat)(re:ByteArray)(s:Int)(NL:List (ByteArray×ByteArray))(N1:List (ByteArray×Value))(E E1:List EE)(P:List ah)(r:aK)(d:Entry)(w:World)(h:dG w b n e p re s (ed NL) E P)(hre:¬re=⟨#[]⟩)(he:aS w r d)(hE:∀x∈E,lG (aW b n e p) w x∧Du x.2)(hR:vN (ed NL) E (textOf d.name) N1 E1)(hok:Du d)(hv:bI d=true)(hrl:d.name.aJ=re)(yY:d.aP=⟨#[]⟩∨P.any (fun x=>decide (x.name=d.aP))=true)(hkeys:∀k o o',(k,o)∈NL→(k,o')∈NL→o=o')(hEl:E.length<4096)(hs0:0≤s)(hs1:s<1000000) :
  Calls Tryz.prog 31 #[.pointer (some ⟨b,0,none⟩),.agg (ae r d)] w (Ut b n e p re s NL N1 E1 P d w):=by
 have Us:=str_eq _ _ hrl
 obtain⟨q0,Uu,hlp,Uw⟩:=agi P d.aP
 obtain⟨r0,d0,ok,hle⟩:=agh E (textOf d.name)
 have Lr:=Lib.hid hle
 have HLP:=Lib.hid hlp
 have oH:=Lib.hid Uw
 clear hle hlp Uw
 obtain⟨hB,ht,jm,hr4,hsz⟩:=Gy w b r d
 refine(callsIn_wide (n:=0)).1 ?_
 refine callsIn_of_wp_marks Tryz.func31 rfl trivial ?_ rfl
 simp only[Tryz.ntmps31,List.size_toArray,List.length_cons,List.length_nil,Nat.reduceAdd,Nat.reduceSub,Array.replicate_succ,Array.replicate_zero,List.push_toArray,List.append_toArray,List.nil_append,List.cons_append]
 gi_wp2
 have he':=he.later hB
 have h':=h.later hB
 unfold tZ at hB ht jm hr4 hsz he' h'
 generalize ((w.alloc (.cells #[.pointer (some ⟨b,0,none⟩)] 28)).alloc (.cells (ae r d) 44)).alloc (.cells #[.int .i64 0] 45)=W at *
 clear hsz
 obtain⟨ank,anl,anm,h_W,l0,l1,l2,⟨c0,c1',c2,c3,c4,f1,hl⟩,mQ,hrn,kN,hct,hc4,hf4⟩:=A8 (Below.refl _ W) ht jm hr4 h'
 refine⟨trivial,rfl,(callsIn_wide.2 (nI _ _ _ c0 hre)).mono ?_⟩
 rintro x w' ⟨rfl,rfl⟩
 dsimp only
 gi_wp2
 refine(wpIn_wide (n:=0)).2 ?_
 refine sU (Below.refl _ W) (by kernel_rfl) (by kernel_rfl) ?_
 intro w1 hb1
 iterate 1 (refine bC (by kernel_rfl) (by kernel_rfl) (fun K hK=>?_);go_big_quiet_op;refine hK _ ?_;clear hK K)
 refine bZ (by rfl) (by rfl) (fun K hK=>?_)
 go_wp2_with fail
 refine(yE r d w1 (he'.later hb1)).mono ?_
 rintro q w2 ⟨rfl,hb2⟩
 rw[hv]
 dsimp only
 have hb2':=ag hb1 hb2
 refine hK _ _ (aj hb2') ?_
 clear hK K
 iterate 12 (refine bC (by kernel_rfl) (by kernel_rfl) (fun K hK=>?_);go_big_quiet_op;refine hK _ ?_;clear hK K)
 refine bz ?_
 clear c0 c1' c2 c3 c4 f1 hl mQ hrn kN hct hc4 hf4 l0 l1 l2
 obtain⟨ano,anp,anq,Ux,l0,l1,l2,⟨c0,c1',c2,c3,c4,f1,hl⟩,mQ,hrn,kN,hct,hc4,hf4⟩:=A8 hb2' ht jm hr4 h'
 have hlk:∀x:Later w2,(Instr.lookup 96 (.map (some p)) (.string d.aP) true).run Tryz.prog x.w=.ok (.tuple #[.agg (ak q0),.bool Uu]) x.w:=fun x=>HLP.out _ _ (Ux.pm.at (x.b.block p Ux.pm.lt))
 gi_wp2
 refine(wpIn_wide (n:=0)).2 ?_
 refine sU (Below.refl _ w2) (by kernel_rfl) (by kernel_rfl) ?_
 intro wq hbq
 iterate 11 (refine bC (by kernel_rfl) (by kernel_rfl) (fun K hK=>?_);go_big_quiet_op;refine hK _ ?_;clear hK K)
 refine bZ (by rfl) (by rfl) (fun K hK=>?_)
 go_wp2_with fail
 refine hK _ _ (aj (ay hbq _)) ?_
 clear hK K
 refine bZ (by rfl) (by rfl) (fun K hK=>?_)
 go_wp2_with fail
 refine hK _ _ (aj (ay hbq (.cells (ak q0) 52))) ?_
 clear hK K
 iterate 1 (refine bC (by kernel_rfl) (by kernel_rfl) (fun K hK=>?_);go_big_quiet_op;refine hK _ ?_;clear hK K)
 refine bz ?_
 have hb4:=ag hb2' (ay hbq (.cells (ak q0) 52))
 clear hbq hlk
 generalize (wq.alloc (.cells (ak q0) 52))=V at *
 clear c0 c1' c2 c3 c4 f1 hl mQ hrn kN hct hc4 hf4 l0 l1 l2
 obtain⟨anr,ant,anu,h_V,l0,l1,l2,⟨c0,c1',c2,c3,c4,f1,hl⟩,mQ,hrn,kN,hct,hc4,hf4⟩:=A8 hb4 ht jm hr4 h'
 cases Uu
 case' false=>
  have hpe:d.aP=⟨#[]⟩:=by
   rcases yY with h|h
   ·exact h
   ·rw[←oH.out]at h;cases h
  have hpc:V.cell? ⟨w.heap.size+1,6,none⟩=some (.string ⟨#[]⟩):=by rw[kN 6,BU,hpe]
  clear kN
  have kN:True:=trivial
  gi_wp2
 case' true=>gi_wp2
 all_goals
  refine⟨trivial,rfl,(callsIn_wide.2 (KW _ _ _ (he'.later hb4))).mono ?_⟩
  rintro q w3 ⟨bN,sN,X,rfl,hb3,hbN,Dt,hX,hd⟩
  have Ls:=ag hb4 hb3
  have hB3:=ag hB Ls
  have anw:=hb3.size
  have Gz:w.heap.size+1+1<V.heap.size:=l2
  dsimp only
  gi_wp2
  refine(wpIn_wide (n:=0)).2 ?_
  refine Gm (gf:=131) (lb:=#[.pointer (some ⟨bN,0,none⟩)]) (by simp[go_sem]) (enters_of Tryz.func131 (by kernel_rfl) rfl) (S:=one (w.heap.size+1+1)) ?_ (xs:=X) (V:=VN) ?_ (KZ bN sN X (one (w.heap.size+1+1)) w3 Dt ?_ ?_)
   (fun c1 k Wc=>But (fun _=>False) w3 Wc∧tY NL (textOf d.name) ((X.map (·.2)).take k)∧w3.heap.size<c1) (fun c c1 _ Wc=>c=.ret∧Gx NL d∧But (one (w.heap.size+1+1)) w3 Wc∧Wc.heap[w.heap.size+1+1]?=some (.cells #[.int .i64 11] 45)∧w3.heap.size<c1) ?_ ?_ ?_ ?_ ?_ ?_
  ·rintro k (rfl:k=_);omega
  ·rintro c1 xx v W0 Wc ⟨s',rfl,_⟩;rfl
  ·rintro k (rfl:k=_);omega
  ·intro y hy
   exact hd y fun k hk=>hy.block k hk.2 fun hk'=>by
    rcases hk' with(e:k=_)|e
    ·have:=hk.1;omega
    ·have:=hk.2;omega
  ·intro c1 Wc h1 h2 hb
   exact⟨But.of_below hb,by simp[tY],h1⟩
  ·rintro c1 k Wc yT ⟨h1,h2,h4⟩ hb
   exact⟨h1.past hb (fun j hj=>hj.1),h2,h4⟩
  ·rintro c c1 k Wc yT ⟨h1,h2,h3,h4,h5⟩ hb
   exact⟨h1,h2,h3.past hb (fun j hj=>hj.1),(hb.block _ (Array.getElem?_eq_some_iff.1 h4).1 (fun hj=>by have:=hj.1;omega)).trans h4,h5⟩
  ·rintro c1 k xx v W0 Wc hxx ⟨s',rfl,hp⟩ ⟨ry,hfr,hc0⟩ hbs hc1 xq
   have hsW:=hbs.size
   have hc2:c1≤Wc.heap.size:=Nat.le_trans xq hsW
   have hbu:But (fun _=>False) w3 Wc:=ry.past hbs (fun j hj=>hj.1)
   clear ry hbs
   obtain⟨s0,q⟩:=xx
   have hqm:(X.map (·.2))[k]?=some q:=by rw[List.getElem?_map,hxx];rfl
   have Uy:q∈d.name::d.aliases:=by rw[←hX];exact List.mem_of_getElem? hqm
   have A7:aZ q=true:=hok q Uy
   have HP:=Lib.hid hp
   have Uz:=Lib.hid hfr
   clear hp hfr
   dsimp only
   gi_wp2
   have hal:Below Wc.heap.size Wc (Wc.alloc (.cells (az s' q) 35)):=(Below.refl _ _).alloc (Nat.le_refl _) _
   refine⟨hal,fun U hU=>?_⟩
   have qg:U.heap[Wc.heap.size]?=some (.cells (az s' q) 35):=(hU.block _ (by simp) (bU (by omega))).trans (World.alloc_heap_new _ _)
   have Le:Wc.heap.size<U.heap.size:=(Array.getElem?_eq_some_iff.1 qg).1
   have lV:But (fun _=>False) w3 U:=(hbu.trans (But.of_below hal)).past hU (fun j hj=>by have:j=_:=hj;omega)
   have UA:Below w3.heap.size w3 U:=lV.below (Nat.le_refl _) (fun _ hf=>hf.elim)
   have vK:bK U s' q:=HP.out U fun j hj=>(hU.block j (by have:=hj.2;simp;omega) (bU (by have:=hj.1;omega))).trans (hal.block j hj.2)
   have UB:=ag Ls UA
   have kW:row? U Wc.heap.size 0 2=some (az s' q):=by rw[dI qg];exact gI (by simp[go_sem])
   clear hal hU hbu HP
   clear c0 c1' c2 c3 c4 f1 hl mQ hrn kN hct hc4 hf4 l0 l1 l2
   obtain⟨anx,mV,oI,Dw,l0,l1,l2,⟨c0,c1',c2,c3,c4,f1,hl⟩,mQ,hrn,kN,hct,hc4,hf4⟩:=A8 UB ht jm hr4 h'
   have Lm:bK U r.parts d.name:=(he'.later UB).name
   have anz:=Dw.nm
   by_cases hin:∃o,(textOf q,o)∈NL
   ·obtain⟨o,ho⟩:=hin
    have hlk:∀x:qI (fun _=>False) U,(Instr.lookup 94 (.map (some n)) (.string (textOf q)) true).run Tryz.prog x.w=.ok (.tuple #[.string o,.bool true]) x.w:=fun x=>age (Dw.nm.at (x.b.block n Dw.nm.lt (fun hf=>hf))) ho
    gi_wp2
    refine TI.Gl (fun _=>False) (But.refl _ U) (by kernel_rfl) (by kernel_rfl) (by kernel_rfl) ?_
    repeat (first|(refine TI.ai (by rfl) ?_)|(refine TI.au (by rfl) (by rfl) (fun K hK=>?_);go_big_quiet_op;refine hK _ ?_;clear hK K))
    refine TI.aB (by rfl) (by rfl) (by rfl) (fun K hK=>?_)
    go_wp2_with fail
    refine(qW _ _ U.drew (vK.later (Below.refl _ _).drew) A7).mono ?_
    rintro z U2 ⟨rfl,hbk⟩
    dsimp only
    have hbb:Below U.heap.size U U2:=(Below.refl _ U).drew.trans hbk
    refine hK _ _ (fU (But.of_below hbb)) ?_
    clear hK K
    repeat (first|(refine TI.ai (by rfl) ?_)|(refine TI.au (by rfl) (by rfl) (fun K hK=>?_);go_big_quiet_op;refine hK _ ?_;clear hK K))
    refine TI.bz ?_
    have Dx:=aI hbb mV
    have agn:row? U2 (w.heap.size+1) 0 2=some (az r.parts d.name):=uY (d:=d) (by rw[dI Dx];exact gI (by simp[go_sem]))
    have l12:w.heap.size+1<U2.heap.size:=(Array.getElem?_eq_some_iff.1 Dx).1
    gi_wp2
    refine⟨trivial,rfl,CallsIn.mono (F:=Fence.wide.inRound (w3.heap.size+1)) (callsIn_wide.2 (qW _ _ U2 (Lm.later hbb) (hok _ (by simp)))) ?_⟩
    rintro z U3 ⟨rfl,agp⟩
    dsimp only
    have Dy:=ag hbb agp
    have hr3:=aI Dy oI
    have anA:U3.cell? ⟨w.heap.size+1+1,0,none⟩=some (.int .i64 0):=(ax hr3).1 0
    have anB:U3.frozen? ⟨w.heap.size+1+1,0,none⟩=false:=(ax hr3).2.1 0
    have l23:w.heap.size+1+1<U3.heap.size:=(Array.getElem?_eq_some_iff.1 hr3).1
    by_cases hoe:o=textOf d.name
    ·have agq:=str_eq _ _ hoe
     gi_wp2
     refine⟨But.of_below Dy,lV.trans (But.of_below Dy),?_,by omega⟩
     rw[←hX,take_snoc hqm]
     exact Uk Uz.out (fun o' ho'=>by rw[hkeys _ _ _ ho' ho];exact hoe)
    ·have agq:=kJ _ _ hoe
     gi_wp2
     have hset:=dH (o:=0) (.int .i64 11) hr3
     have hbx:But (one (w.heap.size+1+1)) U3 (U3.setCell ⟨w.heap.size+1+1,0,none⟩ (.int .i64 11)):=⟨rfl,rfl,rfl,by simp[World.setCell],fun k _ hn'=>Below.heap_setCell _ _ _ _ hn'⟩
     exact⟨((But.of_below Dy).trans hbx).mono fun _ h=>.inl h,rfl,⟨q,Uy,o,ho,hoe⟩,((But.of_below UA).trans (But.of_below Dy)).trans hbx,hset,by omega⟩
   ·have hno:∀o,(textOf q,o)∉NL:=fun o ho=>hin ⟨o,ho⟩
    have hlk:∀x:qI (fun _=>False) U,(Instr.lookup 94 (.map (some n)) (.string (textOf q)) true).run Tryz.prog x.w=.ok (.tuple #[.string ⟨#[]⟩,.bool false]) x.w:=fun x=>agf (Dw.nm.at (x.b.block n Dw.nm.lt (fun hf=>hf))) hno
    gi_wp2
    refine TI.Gl (fun _=>False) (But.refl _ U) (by kernel_rfl) (by kernel_rfl) (by kernel_rfl) ?_
    repeat (first|(refine TI.ai (by rfl) ?_)|(refine TI.au (by rfl) (by rfl) (fun K hK=>?_);go_big_quiet_op;refine hK _ ?_;clear hK K))
    refine TI.aB (by rfl) (by rfl) (by rfl) (fun K hK=>?_)
    go_wp2_with fail
    refine(qW _ _ U.drew (vK.later (Below.refl _ _).drew) A7).mono ?_
    rintro z U2 ⟨rfl,hbk⟩
    dsimp only
    have hbb:Below U.heap.size U U2:=(Below.refl _ U).drew.trans hbk
    refine hK _ _ (fU (But.of_below hbb)) ?_
    clear hK K
    repeat (first|(refine TI.ai (by rfl) ?_)|(refine TI.au (by rfl) (by rfl) (fun K hK=>?_);go_big_quiet_op;refine hK _ ?_;clear hK K))
    refine TI.bz ?_
    have Dx:=aI hbb mV
    have agn:row? U2 (w.heap.size+1) 0 2=some (az r.parts d.name):=uY (d:=d) (by rw[dI Dx];exact gI (by simp[go_sem]))
    have l12:w.heap.size+1<U2.heap.size:=(Array.getElem?_eq_some_iff.1 Dx).1
    gi_wp2
    refine⟨trivial,?_⟩
    gi_wp2
    refine⟨But.of_below hbb,lV.trans (But.of_below hbb),?_,by omega⟩
    rw[←hX,take_snoc hqm]
    exact Uk Uz.out (fun o' ho'=>absurd ho' (hno o'))
  ·rintro c1 Wc ⟨hbu,hfree,hc0⟩ hD
   rw[List.take_of_length_le (by simp),hX]at hfree
   have hbc:Below w3.heap.size w3 Wc:=hbu.below (Nat.le_refl _) (fun _ hf=>hf.elim)
   have GG:=ag Ls hbc
   clear c0 c1' c2 c3 c4 f1 hl mQ hrn kN hct hc4 hf4 l0 l1 l2
   obtain⟨anD,anE,anF,UC,l0,l1,l2,⟨c0,c1',c2,c3,c4,f1,hl⟩,mQ,hrn,kN,hct,hc4,hf4⟩:=A8 GG ht jm hr4 h'
   have hlk:∀x:Later Wc,(Instr.lookup 95 (.map (some e)) (.string (textOf d.name)) true).run Tryz.prog x.w=.ok (.tuple #[.agg (ae r0 d0),.bool ok]) x.w:=fun x=>Lr.out _ _ (UC.em.at (x.b.block e UC.em.lt))
   have UD:bK Wc r.parts d.name:=(he'.later GG).name
   gi_wp2
   refine(wpIn_wide (n:=0)).2 ?_
   refine Dv 12 7 [0,1,2,3,4,5,6,12,7,8,9,10,11,13,14] (Below.refl _ Wc) (by kernel_rfl) (by kernel_rfl) (by rfl) ?_ ?_
   intro v1 hv1
   iterate 7 (refine bC (by kernel_rfl) (by kernel_rfl) (fun K hK=>?_);go_big_quiet_op;refine hK _ ?_;clear hK K)
   refine bZ (by rfl) (by rfl) (fun K hK=>?_)
   go_wp2_with fail
   refine(qW _ _ v1 (UD.later hv1) (hok _ (by simp))).mono ?_
   rintro z v2 ⟨rfl,hv2⟩
   dsimp only
   have aU:=ag hv1 hv2
   refine hK _ _ (aj aU) ?_
   clear hK K
   iterate 4 (refine bC (by kernel_rfl) (by kernel_rfl) (fun K hK=>?_);go_big_quiet_op;refine hK _ ?_;clear hK K)
   refine bZ (by rfl) (by rfl) (fun K hK=>?_)
   go_wp2_with fail
   refine hK _ _ (aj (ay aU _)) ?_
   clear hK K
   refine bZ (by rfl) (by rfl) (fun K hK=>?_)
   go_wp2_with fail
   refine hK _ _ (aj (ay aU (.cells (ae r0 d0) 44))) ?_
   clear hK K
   iterate 1 (refine bC (by kernel_rfl) (by kernel_rfl) (fun K hK=>?_);go_big_quiet_op;refine hK _ ?_;clear hK K)
   refine bz ?_
   have eQ:=ay aU (.cells (ae r0 d0) 44)
   clear hlk hv1 hv2 aU
   generalize (v2.alloc (.cells (ae r0 d0) 44))=V5 at *
   have GH:=ag GG eQ
   have ug:=ag hB GH
   clear c0 c1' c2 c3 c4 f1 hl mQ hrn kN hct hc4 hf4 l0 l1 l2
   rotate_left
   intro v1 hv1
   simp only[pick,List.getElem?_cons_zero,List.getElem?_cons_succ]
   iterate 7 (refine bC (by kernel_rfl) (by kernel_rfl) (fun K hK=>?_);go_big_quiet_op;refine hK _ ?_;clear hK K)
   refine bZ (by rfl) (by rfl) (fun K hK=>?_)
   go_wp2_with fail
   refine hK _ _ (aj (ay hv1 _)) ?_
   clear hK K
   rw[←mO]
   have hz1:=World.alloc_heap_new v1 (.cells (ae bg aV) 44)
   have iF:=ay hv1 (.cells (ae bg aV) 44)
   generalize v1.alloc (.cells (ae bg aV) 44)=Z at *
   refine bZ (by rfl) (by rfl) (fun K hK=>?_)
   go_wp2_with fail
   refine(qW _ _ _ (UD.later iF) (hok _ (by simp))).mono ?_
   rintro z v2 ⟨rfl,hv2⟩
   dsimp only
   have aU:=ag iF hv2
   refine hK _ _ (aj aU) ?_
   clear hK K
   have hz2:=aI hv2 hz1
   have hcp:aX v2 v1.heap.size 0 17=true:=iC hz2 (by simp[go_sem])
   have eQ:=Go.WW.Below.putRow (o:=0) (cs:=ae r0 d0) aU hv1.size
   iterate 4 (refine bC (by kernel_rfl) (by kernel_rfl) (fun K hK=>?_);go_big_quiet_op;refine hK _ ?_;clear hK K)
   refine bZ (by rfl) (by rfl) (fun K hK=>?_)
   go_wp2_with fail
   refine hK _ _ (aj eQ) ?_
   clear hK K
   iterate 1 (refine bC (by kernel_rfl) (by kernel_rfl) (fun K hK=>?_);go_big_quiet_op;refine hK _ ?_;clear hK K)
   refine bz ?_
   clear hlk hv2 aU hz1 hz2 hcp iF
   generalize (putRow v2 v1.heap.size 0 (ae r0 d0))=V5 at *
   have GH:=ag GG eQ
   have ug:=ag hB GH
   clear c0 c1' c2 c3 c4 f1 hl mQ hrn kN hct hc4 hf4 l0 l1 l2
   all_goals
    obtain⟨agr,anG,ags,agt,l0,l1,l2,⟨c0,c1',c2,c3,c4,f1,hl⟩,mQ,hrn,kN,hct,hc4,hf4⟩:=A8 GH ht jm hr4 h'
    have hD5:V5.heap[w3.heap.size]?=some (.deferred (some [])):=aI eQ hD
    have hln:=AV (P:=Tryz.prog) (ty:=3) (oU:=#[95]) rfl Tryz.underlying95 agt.em
    rw[List.length_map]at hln
    have anH:¬(4096:Int)≤(E.length:Int):=by omega
    have n0:=nN h w.heap.size (Nat.le_refl _)
    have n1:=nN h (w.heap.size+1) (by omega)
    have n2:=nN h (w.heap.size+1+1) (by omega)
    have n3:=nN h w3.heap.size (by have:=hB3.size;omega)
    cases ok
    all_goals
     gi_wp2
     refine(wpIn_wide (n:=0)).2 ?_
     refine oV (aW b n e p) (But.refl _ V5) (by kernel_rfl) (by kernel_rfl) ?_
     iterate 4 (refine bC (by kernel_rfl) (by kernel_rfl) (fun K hK=>?_);go_big_quiet_op;refine hK _ ?_;clear hK K)
     refine bZ (by rfl) (by rfl) (fun K hK=>?_)
     go_wp2_with fail
     refine(yI r d V5.drew ((he.later ug).later (Below.refl _ _).drew)).mono ?_
     rintro q V6 ⟨r',rfl,hb6,hd6⟩
     dsimp only
     have uh:Below V5.heap.size V5 V6:=(Below.refl _ V5).drew.trans hb6
     refine hK _ _ (fU (But.of_below uh)) ?_
     clear hK K
     refine bZ (by rfl) (by rfl) (fun K hK=>?_)
     go_wp2_with fail
     have xy:=ag ug uh
     have hkv:∀y,But (fun k=>k<V5.heap.size) V6 y→aS y r' d:=fun y hy=>hd6 y fun k hk=>hy.block k hk.2 (fun hk'=>by have h1:V5.drew.heap.size≤k:=hk.1;have h2:V5.drew.heap.size=V5.heap.size:=rfl;omega)
     have hdv:∀k,aW b n e p k→k<V5.heap.size:=fun k hk=>Nat.lt_of_not_le fun hge=>nN h k (Nat.le_trans ug.size hge) hk
     have hke:lG (aW b n e p) V6 (r',d):=fun y hy=>hkv y (hy.mono hdv)
     refine(af9 b n e p re s (ed NL) N1 E E1 P r' d V6 (h.later xy) (fun x hx=>⟨(hE x hx).1.on (But.of_below xy),(hE x hx).2⟩) hR hke hok).mono ?_
     rintro q V7 ⟨rfl,hb7,h7⟩
     dsimp only
     have nO:But (aW b n e p) V5 V7:=(But.of_below uh).trans hb7
     refine hK _ _ (fU nO) ?_
     clear hK K
     refine bz ?_
     have agu:But (fun k=>k<V5.heap.size) V6 V7:=hb7.mono hdv
     have anI:w.heap.size+1+1<V5.heap.size:=l2
     have anJ:w3.heap.size<V5.heap.size:=(Array.getElem?_eq_some_iff.1 hD5).1
     have Lt:=(nO.block _ l0 n0).trans agr
     have UE:=(nO.block _ l2 n2).trans ags
     have hD7:=(nO.block _ (Array.getElem?_eq_some_iff.1 hD5).1 n3).trans hD5
     have Dz:But (aW b n e p) w V7:=(But.of_below ug).trans nO
     clear c0 c1' c2 c3 c4 f1 hl mQ hrn kN hct hc4 hf4 l0 l1 l2 hln
     obtain⟨c0,c1,c2,c3,c4,f1,hl⟩:=gm h7.box
     have l0:w.heap.size<V7.heap.size:=(Array.getElem?_eq_some_iff.1 Lt).1
     have hct:V7.cell? ⟨w.heap.size,0,none⟩=some (.pointer (some ⟨b,0,none⟩)):=(ax Lt).1 0
     gi_wp2
     refine⟨trivial,rfl,(callsIn_wide.2 (CJ b s V7 c1 f1 hs0 hs1)).mono ?_⟩
     rintro q w' ⟨rfl,rfl⟩
     dsimp only
     have hbw:b<w.heap.size:=(Array.getElem?_eq_some_iff.1 h.box).1
     have vO:=dH (o:=1) (.int .i64 (s+1)) h7.box
     rw[CG]at vO
     have hoth:∀k,k≠b→(V7.setCell ⟨b,1,none⟩ (.int .i64 (s+1))).heap[k]?=V7.heap[k]?:=fun k hk=>Below.heap_setCell _ _ _ _ hk
     have Lu:(V7.setCell ⟨b,1,none⟩ (.int .i64 (s+1))).heap.size=V7.heap.size:=by simp[World.setCell]
     have GI:=(hoth _ (by omega)).trans UE
     have hD8:=(hoth w3.heap.size (by have:=hB3.size;omega)).trans hD7
     have hc8:(V7.setCell ⟨b,1,none⟩ (.int .i64 (s+1))).cell? ⟨w.heap.size+1+1,0,none⟩=some (.int .i64 0):=(ax GI).1 0
     have hf8:(V7.setCell ⟨b,1,none⟩ (.int .i64 (s+1))).frozen? ⟨w.heap.size+1+1,0,none⟩=false:=(ax GI).2.1 0
     have l8:w.heap.size+1+1<(V7.setCell ⟨b,1,none⟩ (.int .i64 (s+1))).heap.size:=(Array.getElem?_eq_some_iff.1 GI).1
     have DC:But (aW b n e p) w (V7.setCell ⟨b,1,none⟩ (.int .i64 (s+1))):=⟨Dz.os,Dz.tape,Dz.output,by rw[Lu];exact Dz.size,fun k hk hn'=>(hoth k (fun e'=>hn' (.inl e'))).trans (Dz.block k hk hn')⟩
     have hnb:n≠b:=fun e'=>jo h7.box h7.nm e'.symm
     have heb:e≠b:=fun e'=>jo h7.box h7.em e'.symm
     have hpb:p≠b:=fun e'=>jo h7.box h7.pm e'.symm
     have h8:dG (V7.setCell ⟨b,1,none⟩ (.int .i64 (s+1))) b n e p re (s+1) (rC N1 (textOf d.name) (d.name::d.aliases)) (E1++[(r',d)]) P:=⟨vO,h7.nm.at (hoth n hnb),h7.em.at (hoth e heb),h7.pm.at (hoth p hpb),h.ne⟩
     have agw:But (fun k=>k<V5.heap.size) V6 (V7.setCell ⟨b,1,none⟩ (.int .i64 (s+1))):=agu.trans ⟨rfl,rfl,rfl,by rw[Lu];exact Nat.le_refl _,fun k _ hn'=>hoth k (fun e'=>hn' (hdv k (.inl e')))⟩
     clear vO hoth Lu c0 c1 c2 c3 c4 f1 hl hct l0 UE hD7 Lt
     generalize V7.setCell ⟨b,1,none⟩ (.int .i64 (s+1))=V8 at *
     gi_wp2
     have hw3:=hB3.size
     have agx:=dH (o:=0) (.int .i64 0) GI
     have LC:(V8.setCell ⟨w.heap.size+1+1,0,none⟩ (.int .i64 0)).heap[w3.heap.size]?=some (.deferred (some [])):=(Below.heap_setCell _ _ _ _ (show w3.heap.size≠w.heap.size+1+1 by omega)).trans hD8
     refine⟨by simp,.inl ⟨_,_,rfl,run_takeDeferred LC,?_⟩⟩
     have UF:∀k,k≠w.heap.size+1+1→k≠w3.heap.size→((V8.setCell ⟨w.heap.size+1+1,0,none⟩ (.int .i64 0)).putObj w3.heap.size (.deferred none)).heap[k]?=V8.heap[k]?:=fun k h1 h2=>(World.putObj_heap_other h2).trans (Below.heap_setCell _ _ _ _ h1)
     have agy:V8.heap.size≤((V8.setCell ⟨w.heap.size+1+1,0,none⟩ (.int .i64 0)).putObj w3.heap.size (.deferred none)).heap.size:=by simp[World.setCell,World.putObj]
     have ru:((V8.setCell ⟨w.heap.size+1+1,0,none⟩ (.int .i64 0)).putObj w3.heap.size (.deferred none)).cell? ⟨w.heap.size+1+1,0,none⟩=some (.int .i64 0):=(ax ((World.putObj_heap_other (show w.heap.size+1+1≠w3.heap.size by omega)).trans agx)).1 0
     have iG:But (fun k=>k=w.heap.size+1+1∨k=w3.heap.size) V8 ((V8.setCell ⟨w.heap.size+1+1,0,none⟩ (.int .i64 0)).putObj w3.heap.size (.deferred none)):=⟨rfl,rfl,rfl,agy,fun k _ hn'=>UF k (fun e'=>hn' (.inl e')) (fun e'=>hn' (.inr e'))⟩
     refine⟨.int .i64 0,by simp[results,Tryz.f31,go_sem,ru],.inr ⟨rfl,hfree,DC.past iG (fun k hk=>by rcases hk with rfl|rfl<;>omega),r',fun y hy=>hkv y ((agw.trans (iG.mono fun k hk=>by rcases hk with rfl|rfl<;>assumption)).trans (hy.mono fun k hk=>Nat.lt_of_lt_of_le hk ug.size)),?_⟩⟩
     have UG:∀k,aW b n e p k→k<w.heap.size:=fun k hk=>Nat.lt_of_not_le fun hge=>nN h k hge hk
     have hk9:∀k,aW b n e p k→((V8.setCell ⟨w.heap.size+1+1,0,none⟩ (.int .i64 0)).putObj w3.heap.size (.deferred none)).heap[k]?=V8.heap[k]?:=fun k hk=>UF k (by have:=UG k hk;omega) (by have:=UG k hk;omega)
     exact⟨(hk9 b (.inl rfl)).trans h8.box,h8.nm.at (hk9 n (.inr (.inl rfl))),h8.em.at (hk9 e (.inr (.inr (.inl rfl)))),h8.pm.at (hk9 p (.inr (.inr (.inr rfl)))),h.ne⟩
  ·rintro c c1 k Wc ⟨rfl,hbz,hbu,h11,hc0⟩ hD
   refine(wpIn_wide (n:=0)).1 ?_
   gi_wp2
   refine⟨by simp,.inl ⟨_,_,rfl,run_takeDeferred hD,?_⟩⟩
   have ru:(Wc.putObj w3.heap.size (.deferred none)).cell? ⟨w.heap.size+1+1,0,none⟩=some (.int .i64 11):=(ax ((World.putObj_heap_other (show w.heap.size+1+1≠w3.heap.size by omega)).trans h11)).1 0
   have iG:But (one w3.heap.size) Wc (Wc.putObj w3.heap.size (.deferred none)):=But.putObj _
   refine⟨.int .i64 11,by simp[results,Tryz.f31,go_sem,ru],.inl ⟨rfl,hbz,?_⟩⟩
   have hall:But (fun k=>w.heap.size≤k) w (Wc.putObj w3.heap.size (.deferred none)):=((But.of_below hB3).trans (hbu.mono fun k (hk:k=_)=>by omega)).trans (iG.mono fun k (hk:k=_)=>by omega)
   exact hall.below (Nat.le_refl _) (fun _ hk=>hk)
end Go.Proofs.YtpfifochimkpfaaGreatDoor
namespace Go.Proofs.YtpfifochimkpfaaGreatDoor
open Go.RowKit Go.WW
attribute [local irreducible] aG
def anL(b n e p:Nat)(re:ByteArray)(s:Int)(E:List EE)(P:List ah)(w:World)(z:Ending)(w':World):Prop:=
 ∃(c s':Int) (N':List (ByteArray×Value)) (E':List EE),z=.returned (.int .i64 c)∧But (aW b n e p) w w'∧dG w' b n e p re s' N' E' P∧(∀x∈E',x∈E)∧0≤s'∧s'≤s+1
theorem agz{N N1:List (ByteArray×Value)}{E E1:List EE}{k:ByteArray}(h:vN N E k N1 E1):∀x∈E1,x∈E:=by
 rcases h with⟨x,hx,rfl,rfl,rfl⟩|⟨h,rfl,rfl⟩
 ·intro y hy;exact(List.mem_filter.1 hy).1
 ·exact fun x hx=>hx
end Go.Proofs.YtpfifochimkpfaaGreatDoor
namespace Go.WW
open Go.RowKit
def qh(a b:ByteArray):Bool:=Op.bytesLess a.toList b.toList || (a.toList == b.toList)
def fE(p:ah)(at_:Int):Nat→Bool→List ah→List ah
 |_,dn,[]=>if dn then []else [p]
 |k,dn,q::l=>(if !dn&&qh p.name q.name then [p]else [])++((if(k:Int) != at_ then [q]else [])++fE p at_ (k+1) (dn || qh p.name q.name) l)
def yZ(p:ah)(at_:Int)(L R:List ah)(k:Nat)(dn:Bool):Prop:=fE p at_ 0 false L=R++fE p at_ k dn (L.drop k)
theorem agA(p:ah)(at_:Int)(L:List ah):yZ p at_ L [] 0 false:=rfl
theorem agB{p:ah}{at_:Int}{L R:List ah}{k:Nat}{dn:Bool}(h:yZ p at_ L R k dn)(hk:k<L.length) :
  yZ p at_ L (R++(if !dn&&qh p.name L[k].name then [p]else [])++(if(k:Int) != at_ then [L[k]]else [])) (k+1) (dn || qh p.name L[k].name):=by
 unfold yZ at *
 rw[h,List.drop_eq_getElem_cons hk]
 simp[fE,List.append_assoc]
theorem agC{p:ah}{at_:Int}{L R:List ah}{k:Nat}{dn:Bool}(h:yZ p at_ L R k dn)(hk:L.length≤k):fE p at_ 0 false L=R++(if dn then []else [p]):=by
 unfold yZ at h;rw[h,List.drop_of_length_le hk];rfl
theorem LG(p:ah)(at_:Int):∀(l:List ah) (k:Nat),(fE p at_ k true l).length≤l.length
 | [],_=>by simp[fE]
 |q::l,k=>by
  have ih:=LG p at_ l (k+1)
  unfold fE
  simp only[Bool.not_true,Bool.false_and,Bool.true_or,Bool.false_eq_true,if_false,List.nil_append,List.length_append,List.length_cons]
  split<;>simp<;>omega
theorem GK(p:ah)(at_:Int):∀(l:List ah) (k:Nat) (dn:Bool),(fE p at_ k dn l).length≤l.length+1
 | [],_,dn=>by unfold fE;split<;>simp
 |q::l,k,dn=>by
  have ih:=GK p at_ l (k+1)
  unfold fE
  simp only[List.length_append,List.length_cons]
  cases dn
  ·cases h:qh p.name q.name
   ·have:=ih false
    simp only[Bool.not_false,Bool.true_and,Bool.false_or,Bool.false_eq_true,if_false,List.length_nil]
    split<;>simp<;>omega
   ·have h1:(fE p at_ (k+1) true l).length≤l.length:=LG p at_ l (k+1)
    simp only[Bool.not_false,Bool.true_and,Bool.false_or,if_true,List.length_cons,List.length_nil]
    split<;>simp<;>omega
  ·have h1:(fE p at_ (k+1) true l).length≤l.length:=LG p at_ l (k+1)
   simp only[Bool.not_true,Bool.false_and,Bool.true_or,Bool.false_eq_true,if_false,List.length_nil]
   split<;>simp<;>omega
end Go.WW
