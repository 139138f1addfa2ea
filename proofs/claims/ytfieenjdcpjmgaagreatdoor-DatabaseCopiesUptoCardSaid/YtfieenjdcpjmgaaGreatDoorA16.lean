/- A part of the proof. -/
import Derived.Test.YtfieenjdcpjmgaaGreatDoorA15
import Derived.Test.YtfieenjdcpjmgaaGreatDoorA12
import Derived.Test.YtfieenjdcpjmgaaGreatDoorA08
set_option maxRecDepth 100000
set_option maxHeartbeats 2000000
namespace Go.WW
open Go.RowKit
def rE(N:List (ByteArray×Value))(ps:List az):List (ByteArray×Value):=ps.foldl (fun m p=>lh m (textOf p)) N
theorem ahD(N:List (ByteArray×Value))(ps:List az)(p:az):rE N (ps++[p])=lh (rE N ps) (textOf p):=by simp[rE]
theorem take_snoc{α:Type}{l:List α}{k:Nat}{x:α}(h:l[k]?=some x):l.take (k+1)=l.take k++[x]:=by rw[List.take_add_one,h];rfl
def qg(E:List EE)(k:ByteArray):List EE:=E.filter fun y=>decide (textOf y.2.name≠k)
theorem ahE(E:List EE)(k:ByteArray):lh (E.map fun x=>(textOf x.2.name,Value.agg (bY x))) k=(qg E k).map fun x=>(textOf x.2.name,Value.agg (bY x)):=by
 unfold lh qg
 rw[List.filter_map]
 rfl
theorem But.past{S T:Nat→Prop}{w a b:World}(h:But S w a)(k:But T a b)(hT:∀j,T j→w.heap.size≤j):But S w b:=
 ⟨k.os.trans h.os,k.tape.trans h.tape,k.output.trans h.output,Nat.le_trans h.size k.size,fun j hj hn=>(k.block j (Nat.lt_of_lt_of_le hj h.size) (fun t=>by have:=hT j t;omega)).trans (h.block j hj hn)⟩
end Go.WW
namespace Go.Proofs.YtfieenjdcpjmgaaGreatDoor
open Go.RowKit Go.WW
theorem Au{w:World}{e:Nat}{E:List EE}(h:MapOf w e (E.map fun x=>(textOf x.2.name,Value.agg (bY x))))(x:EE)(hx:x∈E):(Instr.lookup 85 (.map (some e)) (.string (textOf x.2.name)) true).run Tryz.prog w=.ok (.tuple #[.agg (ae x.1 x.2),.bool true]) w:=by
 have:=Gg (P:=Tryz.prog) true Tryz.underlying85 Tryz.underlying9 h (List.mem_map.2 ⟨x,hx,rfl⟩)
 exact this
attribute [local go_sem] Oper.semAt_some
theorem ahF(b n e p:Nat)(re:ByteArray)(s:Int)(N:List (ByteArray×Value))(E:List EE)(P:List ah)(x:EE)(w:World)(h:bU w b n e p re s N E P)(hx:x∈E)(he:bJ w x.1 x.2)(hok:∀q∈x.2.name::x.2.aliases,bC q=true) :
  Calls Tryz.prog 72 #[.pointer (some ⟨b,0,none⟩),.string (textOf x.2.name)] w fun r w'=>r=.returned (.tuple #[])∧But (aU b n e p) w w'∧bU w' b n e p re s (rE N (x.2.name::x.2.aliases)) (qg E (textOf x.2.name)) P:=by
 have hB:Below w.heap.size w (w.alloc (.cells #[.pointer (some ⟨b,0,none⟩)] 174)):=(Below.refl _ _).alloc (Nat.le_refl _) _
 have h':=h.later hB
 have hx3:(w.alloc (.cells #[.pointer (some ⟨b,0,none⟩)] 174)).heap[w.heap.size]?=some (.cells #[.pointer (some ⟨b,0,none⟩)] 174):=World.alloc_heap_new _ _
 refine(callsIn_wide (n:=0)).1 ?_
 refine callsIn_of_wp_marks Tryz.func72 rfl trivial ?_ rfl
 simp only[Tryz.ntmps72,List.size_toArray,List.length_cons,List.length_nil,Nat.reduceAdd,Nat.reduceSub,Array.replicate_succ,Array.replicate_zero,List.push_toArray,List.append_toArray,List.nil_append,List.cons_append]
 have hlk:=Au h'.em x hx
 obtain⟨c0,c1,c2,c3,c4,f1,hl⟩:=dM h'.box
 have hWs:(w.alloc (.cells #[.pointer (some ⟨b,0,none⟩)] 174)).heap.size=w.heap.size+1:=by simp
 have hct:(w.alloc (.cells #[.pointer (some ⟨b,0,none⟩)] 174)).cell? ⟨w.heap.size,0,none⟩=some (.pointer (some ⟨b,0,none⟩)):=(aC hx3).1 0
 gi_wp2
 have hB2:Below w.heap.size w ((w.alloc (.cells #[.pointer (some ⟨b,0,none⟩)] 174)).alloc (.cells (ae x.1 x.2) 47)):=aj hB _
 have ht2:((w.alloc (.cells #[.pointer (some ⟨b,0,none⟩)] 174)).alloc (.cells (ae x.1 x.2) 47)).heap[w.heap.size]?=some (.cells #[.pointer (some ⟨b,0,none⟩)] 174):=(Below.heap_alloc _ _ _ (by simp)).trans hx3
 have hs2:w.heap.size<((w.alloc (.cells #[.pointer (some ⟨b,0,none⟩)] 174)).alloc (.cells (ae x.1 x.2) 47)).heap.size:=by simp;omega
 clear hB h' hx3 hlk c0 c1 c2 c3 c4 f1 hl hWs hct
 generalize (w.alloc (.cells #[.pointer (some ⟨b,0,none⟩)] 174)).alloc (.cells (ae x.1 x.2) 47)=W2 at *
 refine⟨trivial,rfl,(callsIn_wide.2 (KU _ _ _ (he.later hB2))).mono ?_⟩
 rintro r w3 ⟨bN,sN,X,rfl,hb3,hbN,Dq,hX,hd⟩
 have hB3:=ag hB2 hb3
 have h3:=h.later hB3
 have ht3:=aJ hb3 ht2
 have hs3:=hb3.size
 have hnl:=h.nm.lt
 have hws:=hB3.size
 dsimp only
 gi_wp2
 refine(wpIn_wide (n:=0)).2 ?_
 refine Gy (gf:=126) (lb:=#[.pointer (some ⟨bN,0,none⟩)]) (by simp[go_sem]) (enters_of Tryz.func126 (by kernel_rfl) rfl) (S:=one n) ?_ (xs:=X) (V:=VN) ?_ (KY bN sN X (one n) w3 Dq ?_ ?_)
  (fun c1 k Wc=>But (one n) w3 Wc∧MapOf Wc n (rE N ((X.map (·.2)).take k))∧w3.heap.size<c1) (fun _ _ _ _=>False) ?_ ?_ ?_ ?_ ?_ ?_
 ·rintro k (rfl:k=n);omega
 ·rintro c1 xx v W0 Wc ⟨s',rfl,_⟩;rfl
 ·rintro k (rfl:k=n);omega
 ·intro y hy
  exact hd y fun k hk=>hy.block k hk.2 fun hk'=>by
   rcases hk' with(e:k=n)|e
   ·have:=hk.1;have:=hB2.size;omega
   ·have:=hk.2;omega
 ·intro c1 Wc h1 h2 hb
  exact⟨But.of_below hb,h3.nm.at (hb.block n h3.nm.lt),h1⟩
 ·rintro c1 k Wc yE ⟨h1,h2,h4⟩ hb
  refine⟨h1.past hb (fun j hj=>hj.1),h2.at (hb.block n h2.lt fun hj=>?_),h4⟩
  have:=hj.1
  have:=h3.nm.lt
  omega
 ·rintro c c1 k Wc yE hf
  exact hf.elim
 ·rintro c1 k xx v W0 Wc hxx ⟨s',rfl,hp⟩ ⟨rC,hm0,hc0⟩ hbs hc1 wW
  have hsW:=hbs.size
  have hc2:c1≤Wc.heap.size:=Nat.le_trans wW hsW
  have hbu:But (one n) w3 Wc:=rC.past hbs (fun j hj=>hj.1)
  have hm:=hm0.at (hbs.block n hm0.lt (fun hj=>by have:=hj.1;have:=h3.nm.lt;omega))
  clear rC hm0 hbs
  obtain⟨s0,q⟩:=xx
  have hqm:(X.map (·.2))[k]?=some q:=by rw[List.getElem?_map,hxx];rfl
  have Aw:bC q=true:=hok q (by rw[←hX];exact List.mem_of_getElem? hqm)
  have HP:=Lib.hid hp
  clear hp
  dsimp only
  gi_wp2
  have hal:Below Wc.heap.size Wc (Wc.alloc (.cells (ai s' q) 40)):=(Below.refl _ _).alloc (Nat.le_refl _) _
  refine⟨hal,fun U hU=>?_⟩
  have qf:U.heap[Wc.heap.size]?=some (.cells (ai s' q) 40):=(hU.block _ (by simp) (bf (by omega))).trans (World.alloc_heap_new _ _)
  have Ld:Wc.heap.size<U.heap.size:=(Array.getElem?_eq_some_iff.1 qf).1
  have lU:But (one n) w3 U:=(hbu.trans (But.of_below hal)).past hU (fun j hj=>by have:j=_:=hj;omega)
  have ru:MapOf U n (rE N ((X.map (·.2)).take k)):=hm.at ((hU.block n (by have:=hm.lt;simp;omega) (bf (by have:=h3.nm.lt;omega))).trans (hal.block n hm.lt))
  have vw:bz U s' q:=HP.out U fun j hj=>(hU.block j (by have:=hj.2;simp;omega) (bf (by have:=hj.1;omega))).trans (hal.block j hj.2)
  have hbn:b≠n:=fK h3.box h3.nm
  have htn:w.heap.size≠n:=by omega
  have jV:U.heap[b]?=some (.cells (kJ re s n e p) 90):=(lU.block b (Array.getElem?_eq_some_iff.1 h3.box).1 (bf hbn)).trans h3.box
  have yF:U.heap[w.heap.size]?=some (.cells #[.pointer (some ⟨b,0,none⟩)] 174):=(lU.block _ (Array.getElem?_eq_some_iff.1 ht3).1 (bf htn)).trans ht3
  clear hal hU hbu HP hm hsW
  obtain⟨c0,c1',c2,c3,c4,f1,hl⟩:=dM jV
  have hct:U.cell? ⟨w.heap.size,0,none⟩=some (.pointer (some ⟨b,0,none⟩)):=(aC yF).1 0
  have hlt:w.heap.size<U.heap.size:=(Array.getElem?_eq_some_iff.1 yF).1
  have ji:row? U Wc.heap.size 0 2=some (ai s' q):=by rw[bP qf];exact dm (by simp[go_sem])
  have n1:=bf hbn
  have n2:=bf htn
  have n3:¬one n Wc.heap.size:=bf (by have:=h3.nm.lt;omega)
  gi_wp2
  refine TI.Gx (one n) (But.refl _ U) (by kernel_rfl) (by kernel_rfl) (by kernel_rfl) ?_
  repeat (first|(refine TI.ak (by rfl) ?_)|(refine TI.aI (by rfl) (by rfl) (fun K hK=>?_);go_big_quiet_op;refine hK _ ?_;clear hK K))
  refine TI.aK (by rfl) (by rfl) (by rfl) (fun K hK=>?_)
  go_wp2_with fail
  refine(qY _ _ U.drew (vw.later (Below.refl _ _).drew) Aw).mono ?_
  rintro r U2 ⟨rfl,hbk⟩
  dsimp only
  have hbb:Below U.heap.size U U2:=(Below.refl _ U).drew.trans hbk
  refine hK _ _ (cu (But.of_below hbb)) ?_
  clear hK K
  obtain⟨U3,hrun,yG,iO,U4⟩:=J7 (P:=Tryz.prog) (k:=textOf q) (ty:=0) (nG:=#[84,9]) rfl Tryz.underlying84 Tryz.underlying9 (ru.at (hbb.block n ru.lt))
  have yH:But (one n) U U3:=(But.of_below hbb).trans ⟨iO.os,iO.tape,iO.output,iO.size,iO.block⟩
  refine TI.aK (by rfl) (by rfl) (by rfl) (fun K hK=>?_)
  go_wp2_with fail
  refine hK _ _ (cu yH) ?_
  clear hK K
  refine TI.bQ ?_
  gi_wp2
  refine⟨yH.mono fun _ h=>.inl h,lU.trans yH,?_,by omega⟩
  rw[←hX,take_snoc hqm,ahD]
  exact yG
 ·rintro c1 Wc ⟨hbu,hm,hc0⟩ hD
  rw[List.take_of_length_le (by simp),hX]at hm
  have hbn:b≠n:=fK h3.box h3.nm
  have htn:w.heap.size≠n:=by omega
  have hen:e≠n:=fun e'=>h.ne.1 e'.symm
  have jV:Wc.heap[b]?=some (.cells (kJ re s n e p) 90):=(hbu.block b (Array.getElem?_eq_some_iff.1 h3.box).1 (bf hbn)).trans h3.box
  have yF:Wc.heap[w.heap.size]?=some (.cells #[.pointer (some ⟨b,0,none⟩)] 174):=(hbu.block _ (Array.getElem?_eq_some_iff.1 ht3).1 (bf htn)).trans ht3
  have hme:=h3.em.at (hbu.block e h3.em.lt (bf hen))
  obtain⟨U3,hrun,yG,iO,U4⟩:=J7 (P:=Tryz.prog) (k:=textOf x.2.name) (ty:=0) (nG:=#[85,9]) rfl Tryz.underlying85 Tryz.underlying9 hme
  rw[ahE]at yG
  obtain⟨k0,k1,k2,k3,k4,f1,hl⟩:=dM jV
  have hct:Wc.cell? ⟨w.heap.size,0,none⟩=some (.pointer (some ⟨b,0,none⟩)):=(aC yF).1 0
  gi_wp2
  have hD3:U3.heap[w3.heap.size]?=some (.deferred (some [])):=(iO.block _ (Array.getElem?_eq_some_iff.1 hD).1 (by have:=h3.em.lt;omega)).trans hD
  refine⟨by simp,.inl ⟨_,_,rfl,run_takeDeferred hD3,?_⟩⟩
  have hfin:But (one w3.heap.size) U3 (U3.putObj w3.heap.size (.deferred none)):=But.putObj _
  have he3:=h3.em.lt
  have hn3:=h3.nm.lt
  have hp3:=h3.pm.lt
  have hall:But (aU b n e p) w U3:=((But.of_below hB3).trans (hbu.mono fun k (hk:k=n)=>.inr (.inl hk))).trans (iO.mono fun k (hk:k=e)=>.inr (.inr (.inl hk)))
  have hbe:b≠e:=fK h3.box h3.em
  refine⟨.tuple #[],by simp[results,Tryz.f72,go_sem],rfl,hall.past hfin (fun j hj=>by have:j=_:=hj;omega),?_,?_,?_,?_,h.ne⟩
  ·exact(hfin.block b (by have:=iO.size;omega) (bf (by have:=(Array.getElem?_eq_some_iff.1 h3.box).1;omega))).trans ((iO.block b hl hbe).trans jV)
  ·exact hm.at ((hfin.block n (by have:=iO.size;have:=hm.lt;omega) (bf (by omega))).trans (iO.block n hm.lt (fun e'=>h.ne.1 e')))
  ·exact yG.at (hfin.block e yG.lt (bf (by omega)))
  ·have hpm:=h3.pm.at (hbu.block p h3.pm.lt (bf (fun e'=>h.ne.2.1 e'.symm)))
   exact hpm.at ((hfin.block p (by have:=iO.size;have:=hpm.lt;omega) (bf (by omega))).trans (iO.block p hpm.lt (fun e'=>h.ne.2.2 e'.symm)))
 ·intro c c1 k Wc hf
  exact hf.elim
end Go.Proofs.YtfieenjdcpjmgaaGreatDoor
namespace Go.WW
open Go.RowKit
def tV(N:List (ByteArray×Value))(E:List EE)(k:ByteArray)(N1:List (ByteArray×Value))(E1:List EE):Prop:=
 (∃x∈E,textOf x.2.name=k∧N1=rE N (x.2.name::x.2.aliases)∧E1=qg E k)∨((∀x∈E,textOf x.2.name≠k)∧N1=N∧E1=E)
theorem tV.no{N N1:List (ByteArray×Value)}{E E1:List EE}{k:ByteArray}(h:tV N E k N1 E1):∀y∈E1,textOf y.2.name≠k:=by
 rcases h with⟨x,hx,rfl,rfl,rfl⟩|⟨h,rfl,rfl⟩
 ·intro y hy
  simpa[qg]using(List.mem_filter.1 hy).2
 ·exact h
def rF(N:List (ByteArray×Value))(k:ByteArray)(ps:List az):List (ByteArray×Value):=ps.foldl (fun m p=>nU m (textOf p) (.string k)) N
theorem ahG(N:List (ByteArray×Value))(k:ByteArray)(ps:List az)(p:az):rF N k (ps++[p])=nU (rF N k ps) (textOf p) (.string k):=by simp[rF]
theorem ahH(E:List EE)(x:EE)(h:∀y∈E,textOf y.2.name≠textOf x.2.name):nU (E.map fun x=>(textOf x.2.name,Value.agg (bY x))) (textOf x.2.name) (.agg (bY x))=(E++[x]).map fun x=>(textOf x.2.name,Value.agg (bY x)):=by
 have hk:hasK (E.map fun x=>(textOf x.2.name,Value.agg (bY x))) (textOf x.2.name)=false:=by
  unfold hasK
  rw[List.any_eq_false]
  intro y hy
  obtain⟨z,hz,rfl⟩:=List.mem_map.1 hy
  simpa using h z hz
 unfold nU
 rw[hk]
 simp
def lV(S:Nat→Prop)(w:World)(x:EE):Prop:=∀y,But S w y→bJ y x.1 x.2
theorem lV.on{S:Nat→Prop}{w w':World}{x:EE}(h:lV S w x)(hb:But S w w'):lV S w' x:=fun y hy=>h y (hb.trans hy)
theorem lV.out{S:Nat→Prop}{w:World}{x:EE}(h:lV S w x):bJ w x.1 x.2:=h w (But.refl _ _)
def Az(d:Entry):Prop:=∀q∈d.name::d.aliases,bC q=true
end Go.WW
namespace Go.Proofs.YtfieenjdcpjmgaaGreatDoor
open Go.RowKit Go.WW
theorem GL{w:World}{e:Nat}{E:List EE}(h:MapOf w e (E.map fun x=>(textOf x.2.name,Value.agg (bY x))))(k:ByteArray)(hk:∀x∈E,textOf x.2.name≠k):(Instr.lookup 85 (.map (some e)) (.string k) true).run Tryz.prog w=.ok (.tuple #[.agg (ae dh bI),.bool false]) w:=by
 have hn:k∉(E.map fun x=>(textOf x.2.name,Value.agg (bY x))).map (·.1):=by
  intro hk'
  rw[List.map_map]at hk'
  obtain⟨x,hx,e⟩:=List.mem_map.1 hk'
  exact hk x hx e
 have:=J6 (P:=Tryz.prog) (z:=.agg (ae dh bI)) true Tryz.underlying85 Tryz.underlying9 h (by kernel_rfl) hn
 simpa using this
theorem ahI(b n e p:Nat)(re:ByteArray)(s:Int)(N:List (ByteArray×Value))(E:List EE)(P:List ah)(k:ByteArray)(w:World)(h:bU w b n e p re s N E P)(hk:∀x∈E,textOf x.2.name≠k) :
  Calls Tryz.prog 72 #[.pointer (some ⟨b,0,none⟩),.string k] w fun r w'=>r=.returned (.tuple #[])∧Below w.heap.size w w':=by
 have hB:Below w.heap.size w (w.alloc (.cells #[.pointer (some ⟨b,0,none⟩)] 174)):=(Below.refl _ _).alloc (Nat.le_refl _) _
 have h':=h.later hB
 have hlk:=GL h'.em k hk
 obtain⟨c0,c1,c2,c3,c4,f1,hl⟩:=dM h'.box
 go_enter Tryz.func72,Tryz.ntmps72
 go_wp2_with fail
 refine bodyPost_ret (results_none rfl _ _ _) rfl ⟨rfl,aj hB _⟩
theorem Le(b n e p:Nat)(re:ByteArray)(s:Int)(N N1:List (ByteArray×Value))(E E1:List EE)(P:List ah)(k:ByteArray)(w:World)(h:bU w b n e p re s N E P)(hE:∀x∈E,lV (aU b n e p) w x∧Az x.2)(hR:tV N E k N1 E1) :
  Calls Tryz.prog 72 #[.pointer (some ⟨b,0,none⟩),.string k] w fun r w'=>r=.returned (.tuple #[])∧But (aU b n e p) w w'∧bU w' b n e p re s N1 E1 P:=by
 rcases hR with⟨x,hx,rfl,rfl,rfl⟩|⟨hk,rfl,rfl⟩
 ·exact ahF b n e p re s N E P x w h hx (hE x hx).1.out (hE x hx).2
 ·refine(ahI b n e p re s _ _ P k w h hk).mono ?_
  rintro r w' ⟨rfl,hb⟩
  exact⟨rfl,But.of_below hb,h.later hb⟩
attribute [local go_sem] Oper.semAt_some
theorem ahJ(b n e p:Nat)(re:ByteArray)(s:Int)(N N1:List (ByteArray×Value))(E E1:List EE)(P:List ah)(r:aN)(d:Entry)(w:World)(h:bU w b n e p re s N E P)(hE:∀x∈E,lV (aU b n e p) w x∧Az x.2)(hR:tV N E (textOf d.name) N1 E1)(he:lV (aU b n e p) w (r,d))(hok:Az d) :
  Calls Tryz.prog 66 #[.pointer (some ⟨b,0,none⟩),.agg (ae r d)] w fun q w'=>q=.returned (.tuple #[])∧But (aU b n e p) w w'∧bU w' b n e p re s (rF N1 (textOf d.name) (d.name::d.aliases)) (E1++[(r,d)]) P:=by
 have hB:Below w.heap.size w ((w.alloc (.cells #[.pointer (some ⟨b,0,none⟩)] 174)).alloc (.cells (ae r d) 47)):=aj ((Below.refl _ _).alloc (Nat.le_refl _) _) _
 have ht0:((w.alloc (.cells #[.pointer (some ⟨b,0,none⟩)] 174)).alloc (.cells (ae r d) 47)).heap[w.heap.size]?=some (.cells #[.pointer (some ⟨b,0,none⟩)] 174):=jQ _ _ _
 have he0:((w.alloc (.cells #[.pointer (some ⟨b,0,none⟩)] 174)).alloc (.cells (ae r d) 47)).heap[w.heap.size+1]?=some (.cells (ae r d) 47):=by
  have:=World.alloc_heap_new (w.alloc (.cells #[.pointer (some ⟨b,0,none⟩)] 174)) (.cells (ae r d) 47)
  rwa[World.size_alloc]at this
 refine(callsIn_wide (n:=0)).1 ?_
 refine callsIn_of_wp_marks Tryz.func66 rfl trivial ?_ rfl
 simp only[Tryz.ntmps66,List.size_toArray,List.length_cons,List.length_nil,Nat.reduceAdd,Nat.reduceSub,Array.replicate_succ,Array.replicate_zero,List.push_toArray,List.append_toArray,List.nil_append,List.cons_append]
 gi_wp2
 generalize (w.alloc (.cells #[.pointer (some ⟨b,0,none⟩)] 174)).alloc (.cells (ae r d) 47)=W at *
 have h1:=h.later hB
 have hnb:∀k,w.heap.size≤k→¬aU b n e p k:=fun k hk hd=>by
  have q1:=(Array.getElem?_eq_some_iff.1 h.box).1
  have q2:=h.nm.lt
  have q3:=h.em.lt
  have q4:=h.pm.lt
  rcases hd with rfl|rfl|rfl|rfl<;>omega
 have n0:=hnb w.heap.size (Nat.le_refl _)
 have n1:=hnb (w.heap.size+1) (by omega)
 have hct:W.cell? ⟨w.heap.size,0,none⟩=some (.pointer (some ⟨b,0,none⟩)):=(aC ht0).1 0
 have hl0:w.heap.size<W.heap.size:=(Array.getElem?_eq_some_iff.1 ht0).1
 have hl1:w.heap.size+1<W.heap.size:=(Array.getElem?_eq_some_iff.1 he0).1
 have hre:row? W (w.heap.size+1) 0 17=some (ae r d):=by rw[bP he0];exact dm (by simp[go_sem])
 have hrn:=uU hre
 have hno:∀q,q=d.name→bC q=true:=fun q hq=>hok q (by simp[hq])
 refine(wpIn_wide (n:=0)).2 ?_
 refine mG (aU b n e p) (But.refl _ W) (by kernel_rfl) (by kernel_rfl) ?_
 repeat (first|(refine ak (by rfl) ?_)|(refine aP (by rfl) (by rfl) (fun K hK=>?_);go_big_quiet_op;refine hK _ ?_;clear hK K))
 refine aT (by rfl) (by rfl) (fun K hK=>?_)
 go_wp2_with fail
 refine(qY _ _ W.drew ((he.out.name.later hB).later (Below.refl _ _).drew) (hno _ rfl)).mono ?_
 rintro q W1 ⟨rfl,hbk⟩
 dsimp only
 have hb1:Below W.heap.size W W1:=(Below.refl _ W).drew.trans hbk
 refine hK _ _ (cu (But.of_below hb1)) ?_
 clear hK K
 repeat (first|(refine ak (by rfl) ?_)|(refine aP (by rfl) (by rfl) (fun K hK=>?_);go_big_quiet_op;refine hK _ ?_;clear hK K))
 refine aT (by rfl) (by rfl) (fun K hK=>?_)
 go_wp2_with fail
 have hBW1:=ag hB hb1
 refine(Le b n e p re s N N1 E E1 P _ W1 (h1.later hb1) (fun x hx=>⟨(hE x hx).1.on (But.of_below hBW1),(hE x hx).2⟩) hR).mono ?_
 rintro q W2 ⟨rfl,hb2,h2⟩
 dsimp only
 have hbW2:But (aU b n e p) W W2:=(But.of_below hb1).trans hb2
 refine hK _ _ (cu hbW2) ?_
 clear hK K
 refine bQ ?_
 have qR:But (aU b n e p) w W2:=(But.of_below hB).trans hbW2
 have ht2:W2.heap[w.heap.size]?=some (.cells #[.pointer (some ⟨b,0,none⟩)] 174):=(hbW2.block _ hl0 n0).trans ht0
 have he2:W2.heap[w.heap.size+1]?=some (.cells (ae r d) 47):=(hbW2.block _ hl1 n1).trans he0
 clear hct hl0 hl1 hre hrn ht0 he0 hb1 hbk hBW1 hb2 hbW2 hB h1
 have hws:w.heap.size≤W2.heap.size:=qR.size
 obtain⟨c0,c1,c2,c3,c4,f1,hl⟩:=dM h2.box
 have hct:W2.cell? ⟨w.heap.size,0,none⟩=some (.pointer (some ⟨b,0,none⟩)):=(aC ht2).1 0
 have hl0:w.heap.size<W2.heap.size:=(Array.getElem?_eq_some_iff.1 ht2).1
 have hl1:w.heap.size+1<W2.heap.size:=(Array.getElem?_eq_some_iff.1 he2).1
 have hre:row? W2 (w.heap.size+1) 0 17=some (ae r d):=by rw[bP he2];exact dm (by simp[go_sem])
 have hrn:=uU hre
 have hel:=h.em.lt
 have m0:¬one e w.heap.size:=bf (by omega)
 have m1:¬one e (w.heap.size+1):=bf (by omega)
 have m2:¬one e b:=bf (fK h.box h.em)
 gi_wp2
 refine(wpIn_wide (n:=0)).2 ?_
 refine mG (one e) (But.refl _ W2) (by kernel_rfl) (by kernel_rfl) ?_
 repeat (first|(refine ak (by rfl) ?_)|(refine aP (by rfl) (by rfl) (fun K hK=>?_);go_big_quiet_op;refine hK _ ?_;clear hK K))
 refine aT (by rfl) (by rfl) (fun K hK=>?_)
 go_wp2_with fail
 refine(qY _ _ W2.drew ((he W2 qR).name.later (Below.refl _ _).drew) (hno _ rfl)).mono ?_
 rintro q W3 ⟨rfl,hbk⟩
 dsimp only
 have hb3:Below W2.heap.size W2 W3:=(Below.refl _ W2).drew.trans hbk
 refine hK _ _ (cu (But.of_below hb3)) ?_
 clear hK K
 repeat (first|(refine ak (by rfl) ?_)|(refine aP (by rfl) (by rfl) (fun K hK=>?_);go_big_quiet_op;refine hK _ ?_;clear hK K))
 obtain⟨W4,hrun,Lh,hb4,hs4⟩:=Aj (P:=Tryz.prog) (k:=textOf d.name) (v:=.agg (ae r d)) Tryz.underlying85 Tryz.underlying9 (h2.em.at (hb3.block e h2.em.lt))
 rw[show Value.agg (ae r d)=Value.agg (bY (r,d)) from rfl,ahH E1 (r,d) hR.no]at Lh
 have jW:But (one e) W2 W4:=(But.of_below hb3).trans ⟨hb4.os,hb4.tape,hb4.output,hb4.size,hb4.block⟩
 refine aT (by rfl) (by rfl) (fun K hK=>?_)
 go_wp2_with fail
 refine hK _ _ (cu jW) ?_
 clear hK K
 refine bQ ?_
 have Ll:But (aU b n e p) w W4:=qR.trans (jW.mono fun k hk=>.inr (.inr (.inl hk)))
 have U5:W4.heap[w.heap.size]?=some (.cells #[.pointer (some ⟨b,0,none⟩)] 174):=(jW.block _ hl0 m0).trans ht2
 have he4:W4.heap[w.heap.size+1]?=some (.cells (ae r d) 47):=(jW.block _ hl1 m1).trans he2
 have h4:bU W4 b n e p re s N1 (E1++[(r,d)]) P:=⟨(jW.block b hl m2).trans h2.box,h2.nm.at (jW.block n h2.nm.lt (bf h.ne.1)),Lh,h2.pm.at (jW.block p h2.pm.lt (bf (fun e'=>h.ne.2.2 e'.symm))),h.ne⟩
 clear hct hl0 hl1 hre hrn c0 c1 c2 c3 c4 f1 hl hrun Lh hb4 hs4 hbk hb3 jW
 have hct:W4.cell? ⟨w.heap.size,0,none⟩=some (.pointer (some ⟨b,0,none⟩)):=(aC U5).1 0
 have hl1:w.heap.size+1<W4.heap.size:=(Array.getElem?_eq_some_iff.1 he4).1
 have hre:row? W4 (w.heap.size+1) 0 17=some (ae r d):=by rw[bP he4];exact dm (by simp[go_sem])
 gi_wp2
 refine⟨trivial,rfl,(callsIn_wide.2 (KU _ _ _ (he W4 Ll))).mono ?_⟩
 rintro q w3 ⟨bN,sN,X,rfl,hb3,hbN,Dq,hX,hd⟩
 have h3:=h4.later hb3
 have Aa:But (aU b n e p) w w3:=Ll.trans (But.of_below hb3)
 have ht3:=aJ hb3 U5
 have he3:=aJ hb3 he4
 have hs3:=hb3.size
 have hnl:=h.nm.lt
 have hw4:=Ll.size
 clear hct hl1 hre ht2 he2 h2 qR
 dsimp only
 gi_wp2
 refine(wpIn_wide (n:=0)).2 ?_
 refine Gy (gf:=126) (lb:=#[.pointer (some ⟨bN,0,none⟩)]) (by simp[go_sem]) (enters_of Tryz.func126 (by kernel_rfl) rfl) (S:=one n) ?_ (xs:=X) (V:=VN) ?_ (KY bN sN X (one n) w3 Dq ?_ ?_)
  (fun c1 k Wc=>But (one n) w3 Wc∧MapOf Wc n (rF N1 (textOf d.name) ((X.map (·.2)).take k))∧w3.heap.size<c1) (fun _ _ _ _=>False) ?_ ?_ ?_ ?_ ?_ ?_
 ·rintro k (rfl:k=n);omega
 ·rintro c1 xx v W0 Wc ⟨s',rfl,_⟩;rfl
 ·rintro k (rfl:k=n);omega
 ·intro y hy
  exact hd y fun k hk=>hy.block k hk.2 fun hk'=>by
   rcases hk' with(e:k=n)|e
   ·have:=hk.1;omega
   ·have:=hk.2;omega
 ·intro c1 Wc h1 h2 hb
  exact⟨But.of_below hb,h3.nm.at (hb.block n h3.nm.lt),h1⟩
 ·rintro c1 k Wc yE ⟨h1,h2,h4⟩ hb
  refine⟨h1.past hb (fun j hj=>hj.1),h2.at (hb.block n h2.lt fun hj=>?_),h4⟩
  have:=hj.1
  have:=h3.nm.lt
  omega
 ·rintro c c1 k Wc yE hf
  exact hf.elim
 ·rintro c1 k xx v W0 Wc hxx ⟨s',rfl,hp⟩ ⟨rC,hm0,hc0⟩ hbs hc1 wW
  have hsW:=hbs.size
  have hc2:c1≤Wc.heap.size:=Nat.le_trans wW hsW
  have hbu:But (one n) w3 Wc:=rC.past hbs (fun j hj=>hj.1)
  have hm:=hm0.at (hbs.block n hm0.lt (fun hj=>by have:=hj.1;have:=h3.nm.lt;omega))
  clear rC hm0 hbs
  obtain⟨s0,q⟩:=xx
  have hqm:(X.map (·.2))[k]?=some q:=by rw[List.getElem?_map,hxx];rfl
  have Aw:bC q=true:=hok q (by rw[←hX];exact List.mem_of_getElem? hqm)
  have HP:=Lib.hid hp
  clear hp
  dsimp only
  gi_wp2
  have hal:Below Wc.heap.size Wc (Wc.alloc (.cells (ai s' q) 40)):=(Below.refl _ _).alloc (Nat.le_refl _) _
  refine⟨hal,fun U hU=>?_⟩
  have qf:U.heap[Wc.heap.size]?=some (.cells (ai s' q) 40):=(hU.block _ (by simp) (bf (by omega))).trans (World.alloc_heap_new _ _)
  have Ld:Wc.heap.size<U.heap.size:=(Array.getElem?_eq_some_iff.1 qf).1
  have lU:But (one n) w3 U:=(hbu.trans (But.of_below hal)).past hU (fun j hj=>by have:j=_:=hj;omega)
  have ru:MapOf U n (rF N1 (textOf d.name) ((X.map (·.2)).take k)):=hm.at ((hU.block n (by have:=hm.lt;simp;omega) (bf (by have:=h3.nm.lt;omega))).trans (hal.block n hm.lt))
  have vw:bz U s' q:=HP.out U fun j hj=>(hU.block j (by have:=hj.2;simp;omega) (bf (by have:=hj.1;omega))).trans (hal.block j hj.2)
  have Lm:bz U r.parts d.name:=(he U (Aa.trans (lU.mono fun j hj=>.inr (.inl hj)))).name
  have hbn:b≠n:=fK h3.box h3.nm
  have htn:w.heap.size≠n:=by omega
  have U6:w.heap.size+1≠n:=by omega
  have jV:U.heap[b]?=some (.cells (kJ re s n e p) 90):=(lU.block b (Array.getElem?_eq_some_iff.1 h3.box).1 (bf hbn)).trans h3.box
  have yF:U.heap[w.heap.size]?=some (.cells #[.pointer (some ⟨b,0,none⟩)] 174):=(lU.block _ (Array.getElem?_eq_some_iff.1 ht3).1 (bf htn)).trans ht3
  have U7:U.heap[w.heap.size+1]?=some (.cells (ae r d) 47):=(lU.block _ (Array.getElem?_eq_some_iff.1 he3).1 (bf U6)).trans he3
  clear hal hU hbu HP hm hsW
  obtain⟨c0,c1',c2,c3,c4,f1,hl⟩:=dM jV
  have hct:U.cell? ⟨w.heap.size,0,none⟩=some (.pointer (some ⟨b,0,none⟩)):=(aC yF).1 0
  have hlt:w.heap.size<U.heap.size:=(Array.getElem?_eq_some_iff.1 yF).1
  have hlt1:w.heap.size+1<U.heap.size:=(Array.getElem?_eq_some_iff.1 U7).1
  have ji:row? U Wc.heap.size 0 2=some (ai s' q):=by rw[bP qf];exact dm (by simp[go_sem])
  have hrn:row? U (w.heap.size+1) 0 2=some (ai r.parts d.name):=uU (d:=d) (by rw[bP U7];exact dm (by simp[go_sem]))
  have o1:=bf hbn
  have o2:=bf htn
  have o4:=bf U6
  have o3:¬one n Wc.heap.size:=bf (by have:=h3.nm.lt;omega)
  gi_wp2
  refine TI.Gx (one n) (But.refl _ U) (by kernel_rfl) (by kernel_rfl) (by kernel_rfl) ?_
  repeat (first|(refine TI.ak (by rfl) ?_)|(refine TI.aI (by rfl) (by rfl) (fun K hK=>?_);go_big_quiet_op;refine hK _ ?_;clear hK K))
  refine TI.aK (by rfl) (by rfl) (by rfl) (fun K hK=>?_)
  go_wp2_with fail
  refine(qY _ _ U.drew (vw.later (Below.refl _ _).drew) Aw).mono ?_
  rintro z U2 ⟨rfl,hbk⟩
  dsimp only
  have hbb:Below U.heap.size U U2:=(Below.refl _ U).drew.trans hbk
  refine hK _ _ (cu (But.of_below hbb)) ?_
  clear hK K
  repeat (first|(refine TI.ak (by rfl) ?_)|(refine TI.aI (by rfl) (by rfl) (fun K hK=>?_);go_big_quiet_op;refine hK _ ?_;clear hK K))
  refine TI.aK (by rfl) (by rfl) (by rfl) (fun K hK=>?_)
  go_wp2_with fail
  refine(qY _ _ U2 (Lm.later hbb) (hno _ rfl)).mono ?_
  rintro z U2' ⟨rfl,hbk'⟩
  dsimp only
  have Lp:=ag hbb hbk'
  refine hK _ _ (cu (But.of_below Lp)) ?_
  clear hK K
  obtain⟨U3,hrun,yG,iO,U4⟩:=Aj (P:=Tryz.prog) (k:=textOf q) (v:=.string (textOf d.name)) Tryz.underlying84 Tryz.underlying9 (ru.at (Lp.block n ru.lt))
  have yH:But (one n) U U3:=(But.of_below Lp).trans ⟨iO.os,iO.tape,iO.output,iO.size,iO.block⟩
  refine TI.aK (by rfl) (by rfl) (by rfl) (fun K hK=>?_)
  go_wp2_with fail
  refine hK _ _ (cu yH) ?_
  clear hK K
  refine TI.bQ ?_
  gi_wp2
  refine⟨yH.mono fun _ h=>.inl h,lU.trans yH,?_,by omega⟩
  rw[←hX,take_snoc hqm,ahG]
  exact yG
 ·rintro c1 Wc ⟨hbu,hm,hc0⟩ hD
  rw[List.take_of_length_le (by simp),hX]at hm
  have hbn:b≠n:=fK h3.box h3.nm
  gi_wp2
  refine⟨by simp,.inl ⟨_,_,rfl,run_takeDeferred hD,?_⟩⟩
  have hfin:But (one w3.heap.size) Wc (Wc.putObj w3.heap.size (.deferred none)):=But.putObj _
  have hbs:=hbu.size
  have tX:=(Array.getElem?_eq_some_iff.1 h3.box).1
  have ahK:=h3.em.lt
  have apt:=h3.nm.lt
  have ahL:=h3.pm.lt
  have hall:But (aU b n e p) w Wc:=Aa.trans (hbu.mono fun k hk=>.inr (.inl hk))
  refine⟨.tuple #[],by simp[results,Tryz.f66,go_sem],rfl,hall.past hfin (fun j hj=>by have:j=_:=hj;omega),?_,?_,?_,?_,h.ne⟩
  ·exact(hfin.block b (by omega) (bf (by omega))).trans ((hbu.block b tX (bf hbn)).trans h3.box)
  ·exact hm.at (hfin.block n hm.lt (bf (by omega)))
  ·exact h3.em.at ((hfin.block e (by omega) (bf (by omega))).trans (hbu.block e ahK (bf (fun e'=>h.ne.1 e'.symm))))
  ·exact h3.pm.at ((hfin.block p (by omega) (bf (by omega))).trans (hbu.block p ahL (bf (fun e'=>h.ne.2.1 e'.symm))))
 ·intro c c1 k Wc hf
  exact hf.elim
end Go.Proofs.YtfieenjdcpjmgaaGreatDoor
namespace Go.WW
open Go.RowKit
theorem ahM{P:Program}{ops:Array Oper}{S:World→Prop}{st:Oper→Bool}{Q:Act→World→Prop}{o:Oper}{rest:List Oper}{a:Act}{w:World}(hw:Region.wanted o (yielded ops a.tmps)=false)(hs:a.put o.dst undef=a)(h:aH P ops st S Q rest a w):aH P ops st S Q (o::rest) a w:=
 ak hw (by rw[hs];exact h)
theorem yI{P:Program}{id:Nat}{Q':Exit→Act→World→Prop}{a:Act}{W w:World}{l:List Oper}(x c:Nat)(idx:List Nat)(hW:Below W.heap.size W w)(hm:P.follows .mixedOrders=true)(hB:Dj fO l.toArray x c=true)(hi:mv x c (List.range l.toArray.size)=idx)
  (h:∀w1,Below W.heap.size W w1→aH P l.toArray fO (since W) (fun a' w'=>Q' .normal a' w') l a w1)
  (h2:∀w1,Below W.heap.size W w1→aH P l.toArray fO (since W) (fun a' w'=>Q' .normal a' w') (pick l idx) a w1):(Code.region id l.toArray true).wp P Q' a w:=
 Uw (since W) fO x c idx hm hB hi ⟨⟨w.drew,hW.drew⟩,rfl⟩ (h _ hW.drew) (h2 _ hW.drew)
def fB(L:List (ByteArray×ByteArray)):List (ByteArray×Value):=L.map fun x=>(x.1,Value.string x.2)
def GM(L:List (ByteArray×ByteArray))(d:Entry):Prop:=∃q∈d.name::d.aliases,∃o,(textOf q,o)∈L∧o≠textOf d.name
def tY(L:List (ByteArray×ByteArray))(k:ByteArray)(ps:List az):Prop:=∀q∈ps,∀o,(textOf q,o)∈L→o=k
theorem U8{L:List (ByteArray×ByteArray)}{k:ByteArray}{ps:List az}{q:az}(h:tY L k ps)(hq:∀o,(textOf q,o)∈L→o=k):tY L k (ps++[q]):=by
 intro x hx
 rcases List.mem_append.1 hx with hx|hx
 ·exact h x hx
 ·obtain rfl:x=q:=by simpa using hx
  exact hq
theorem ahN{L:List (ByteArray×ByteArray)}{k:ByteArray}(h:∀o,(k,o)∉L):k∉(fB L).map (·.1):=by
 intro hk
 simp only[fB,List.map_map,List.mem_map,Function.comp]at hk
 obtain⟨⟨a,o⟩,hx,rfl⟩:=hk
 exact h o hx
end Go.WW
namespace Go.Proofs.YtfieenjdcpjmgaaGreatDoor
open Go.RowKit Go.WW
def tZ(w:World)(b:Nat)(r:aN)(d:Entry):World:=((w.alloc (.cells #[.pointer (some ⟨b,0,none⟩)] 25)).alloc (.cells (ae r d) 47)).alloc (.cells #[.int .i64 0] 26)
theorem GN(w:World)(b:Nat)(r:aN)(d:Entry):Below w.heap.size w (tZ w b r d)∧(tZ w b r d).heap[w.heap.size]?=some (.cells #[.pointer (some ⟨b,0,none⟩)] 25)∧(tZ w b r d).heap[w.heap.size+1]?=some (.cells (ae r d) 47)∧(tZ w b r d).heap[w.heap.size+1+1]?=some (.cells #[.int .i64 0] 26)∧(tZ w b r d).heap.size=w.heap.size+1+1+1:=by
 unfold tZ
 refine⟨aj (aj ((Below.refl _ _).alloc (Nat.le_refl _) _) _) _,?_,?_,?_,by simp⟩
 ·rw[Below.heap_alloc _ _ _ (by simp;omega)];exact jQ _ _ _
 ·rw[Below.heap_alloc _ _ _ (by simp)]
  have:=World.alloc_heap_new (w.alloc (.cells #[.pointer (some ⟨b,0,none⟩)] 25)) (.cells (ae r d) 47)
  rwa[World.size_alloc]at this
 ·have:=World.alloc_heap_new ((w.alloc (.cells #[.pointer (some ⟨b,0,none⟩)] 25)).alloc (.cells (ae r d) 47)) (.cells #[.int .i64 0] 26)
  simpa using this
theorem ahO{w:World}{n:Nat}{L:List (ByteArray×ByteArray)}(h:MapOf w n (fB L)){k o:ByteArray}(hx:(k,o)∈L):(Instr.lookup 84 (.map (some n)) (.string k) true).run Tryz.prog w=.ok (.tuple #[.string o,.bool true]) w:=by
 have:=Gg (P:=Tryz.prog) true Tryz.underlying84 Tryz.underlying9 h (List.mem_map.2 ⟨(k,o),hx,rfl⟩)
 exact this
theorem ahP{w:World}{n:Nat}{L:List (ByteArray×ByteArray)}(h:MapOf w n (fB L)){k:ByteArray}(hx:∀o,(k,o)∉L):(Instr.lookup 84 (.map (some n)) (.string k) true).run Tryz.prog w=.ok (.tuple #[.string ⟨#[]⟩,.bool false]) w:=by
 have:=J6 (P:=Tryz.prog) (z:=.string ⟨#[]⟩) true Tryz.underlying84 Tryz.underlying9 h (by kernel_rfl) (ahN hx)
 simpa using this
theorem ahQ(E:List EE)(k:ByteArray):∃(r0:aN) (d0:Entry) (ok:Bool),∀(w:World) (e:Nat),MapOf w e (E.map fun x=>(textOf x.2.name,Value.agg (bY x)))→(Instr.lookup 85 (.map (some e)) (.string k) true).run Tryz.prog w=.ok (.tuple #[.agg (ae r0 d0),.bool ok]) w:=by
 by_cases h:∃x∈E,textOf x.2.name=k
 ·obtain⟨x,hx,rfl⟩:=h
  exact⟨x.1,x.2,true,fun w e hm=>Au hm x hx⟩
 ·exact⟨dh,bI,false,fun w e hm=>GL hm k (fun x hx e'=>h ⟨x,hx,e'⟩)⟩
theorem ahR(P:List ah)(k:ByteArray):∃(q0:ah) (ok:Bool),(∀(w:World) (p:Nat),MapOf w p (P.map fun q=>(q.name,Value.agg (aG q)))→(Instr.lookup 86 (.map (some p)) (.string k) true).run Tryz.prog w=.ok (.tuple #[.agg (aG q0),.bool ok]) w)∧ok=P.any (fun x=>decide (x.name=k)):=by
 cases h:P.any (fun x=>decide (x.name=k))with
 |true=>
  obtain⟨q,hq,e⟩:=List.any_eq_true.1 h
  have e':q.name=k:=by simpa using e
  subst e'
  exact⟨q,true,fun w p hm=>Gp hm q hq,rfl⟩
 |false=>exact⟨lS,false,fun w p hm=>Gq hm k h,rfl⟩
attribute [local irreducible] aH
theorem U9(b n e p:Nat)(re:ByteArray)(s:Int)(N:List (ByteArray×Value))(E:List EE)(P:List ah)(r:aN)(d:Entry)(w:World)(h:bU w b n e p re s N E P)(hre:¬re=⟨#[]⟩)(he:bJ w r d)(hv:bT d=false) :
  Calls Tryz.prog 23 #[.pointer (some ⟨b,0,none⟩),.agg (ae r d)] w fun q w'=>q=.returned (.int .i64 2)∧Below w.heap.size w w':=by
 obtain⟨hB,ht,jg,hr4,hsz⟩:=GN w b r d
 go_enter Tryz.func23,Tryz.ntmps23
 go_wp2_with fail
 have he':=he.later hB
 have h':=h.later hB
 unfold tZ at hB ht jg hr4 hsz he' h'
 generalize ((w.alloc (.cells #[.pointer (some ⟨b,0,none⟩)] 25)).alloc (.cells (ae r d) 47)).alloc (.cells #[.int .i64 0] 26)=W at *
 obtain⟨c0,c1,c2,c3,c4,f1,hl⟩:=dM h'.box
 refine(jA _ _ _ c0 hre).mono ?_
 rintro x w' ⟨rfl,rfl⟩
 dsimp only
 have mJ:row? W (w.heap.size+1) 0 17=some (ae r d):=by rw[bP jg];exact dm (by simp[go_sem])
 have kK:=(aC jg).1
 have hct:W.cell? ⟨w.heap.size,0,none⟩=some (.pointer (some ⟨b,0,none⟩)):=(aC ht).1 0
 have hc4:W.cell? ⟨w.heap.size+1+1,0,none⟩=some (.int .i64 0):=(aC hr4).1 0
 have hf4:=(aC hr4).2.1
 have l0:w.heap.size<W.heap.size:=by omega
 have l1:w.heap.size+1<W.heap.size:=by omega
 have l2:w.heap.size+1+1<W.heap.size:=by omega
 clear hsz
 go_wp2_with fail
 refine wM (Below.refl _ W) (by kernel_rfl) (by kernel_rfl) ?_
 intro w1 hb1
 repeat (first|(refine ak (by rfl) ?_)|(refine aP (by rfl) (by rfl) (fun K hK=>?_);go_big_quiet_op;refine hK _ ?_;clear hK K))
 refine aT (by rfl) (by rfl) (fun K hK=>?_)
 go_wp2_with fail
 refine(CU r d w1 (he'.later hb1)).mono ?_
 rintro q w2 ⟨rfl,hb2⟩
 rw[hv]
 dsimp only
 have hb2':=ag hb1 hb2
 refine hK _ _ (aA hb2') ?_
 clear hK K
 iterate 2 (refine aP (by kernel_rfl) (by kernel_rfl) (fun K hK=>?_);go_big_quiet_op;refine hK _ ?_;clear hK K)
 iterate 9 (refine ahM (by kernel_rfl) (by kernel_rfl) ?_)
 iterate 1 (refine aP (by kernel_rfl) (by kernel_rfl) (fun K hK=>?_);go_big_quiet_op;refine hK _ ?_;clear hK K)
 refine bQ ?_
 have Va:w2.cell? ⟨w.heap.size,0,none⟩=some (.pointer (some ⟨b,0,none⟩)):=(hb2'.cell l0).trans hct
 have Vb:w2.cell? ⟨w.heap.size+1+1,0,none⟩=some (.int .i64 0):=(hb2'.cell l2).trans hc4
 have Vd:w2.frozen? ⟨w.heap.size+1+1,0,none⟩=false:=(hb2'.frozen l2).trans (hf4 0)
 have wY:w2.heap[w.heap.size+1+1]?=some (.cells #[.int .i64 0] 26):=(hb2'.block _ l2).trans hr4
 have Ve:w.heap.size+1+1<w2.heap.size:=(Array.getElem?_eq_some_iff.1 wY).1
 go_wp2_with fail
 have hset:=dF (o:=0) (.int .i64 2) wY
 have hfc:(w2.setCell ⟨w.heap.size+1+1,0,none⟩ (.int .i64 2)).cell? ⟨w.heap.size+1+1,0,none⟩=some (.int .i64 2):=(aC hset).1 0
 refine bodyPost_ret (v:=.int .i64 2) (by simp[results,Tryz.results23,go_sem,hfc]) rfl ?_
 exact⟨rfl,(ag hB hb2').setCell (show w.heap.size≤w.heap.size+1+1 by omega) _⟩
theorem ahS(b n e p:Nat)(re:ByteArray)(s:Int)(N:List (ByteArray×Value))(E:List EE)(P:List ah)(r:aN)(d:Entry)(w:World)(h:bU w b n e p re s N E P)(hre:¬re=⟨#[]⟩)(he:bJ w r d)(hv:bT d=true)(hrl:¬d.name.aF=re) :
  Calls Tryz.prog 23 #[.pointer (some ⟨b,0,none⟩),.agg (ae r d)] w fun q w'=>q=.returned (.int .i64 2)∧Below w.heap.size w w':=by
 have Vf:=kY _ _ hrl
 obtain⟨hB,ht,jg,hr4,hsz⟩:=GN w b r d
 go_enter Tryz.func23,Tryz.ntmps23
 go_wp2_with fail
 have he':=he.later hB
 have h':=h.later hB
 unfold tZ at hB ht jg hr4 hsz he' h'
 generalize ((w.alloc (.cells #[.pointer (some ⟨b,0,none⟩)] 25)).alloc (.cells (ae r d) 47)).alloc (.cells #[.int .i64 0] 26)=W at *
 obtain⟨c0,c1,c2,c3,c4,f1,hl⟩:=dM h'.box
 refine(jA _ _ _ c0 hre).mono ?_
 rintro x w' ⟨rfl,rfl⟩
 dsimp only
 have mJ:row? W (w.heap.size+1) 0 17=some (ae r d):=by rw[bP jg];exact dm (by simp[go_sem])
 have kK:=(aC jg).1
 have hct:W.cell? ⟨w.heap.size,0,none⟩=some (.pointer (some ⟨b,0,none⟩)):=(aC ht).1 0
 have hc4:W.cell? ⟨w.heap.size+1+1,0,none⟩=some (.int .i64 0):=(aC hr4).1 0
 have hf4:=(aC hr4).2.1
 have l0:w.heap.size<W.heap.size:=by omega
 have l1:w.heap.size+1<W.heap.size:=by omega
 have l2:w.heap.size+1+1<W.heap.size:=by omega
 clear hsz
 go_wp2_with fail
 refine wM (Below.refl _ W) (by kernel_rfl) (by kernel_rfl) ?_
 intro w1 hb1
 repeat (first|(refine ak (by rfl) ?_)|(refine aP (by rfl) (by rfl) (fun K hK=>?_);go_big_quiet_op;refine hK _ ?_;clear hK K))
 refine aT (by rfl) (by rfl) (fun K hK=>?_)
 go_wp2_with fail
 refine(CU r d w1 (he'.later hb1)).mono ?_
 rintro q w2 ⟨rfl,hb2⟩
 rw[hv]
 dsimp only
 have hb2':=ag hb1 hb2
 refine hK _ _ (aA hb2') ?_
 clear hK K
 iterate 12 (refine aP (by kernel_rfl) (by kernel_rfl) (fun K hK=>?_);go_big_quiet_op;refine hK _ ?_;clear hK K)
 refine bQ ?_
 have Va:w2.cell? ⟨w.heap.size,0,none⟩=some (.pointer (some ⟨b,0,none⟩)):=(hb2'.cell l0).trans hct
 have Vb:w2.cell? ⟨w.heap.size+1+1,0,none⟩=some (.int .i64 0):=(hb2'.cell l2).trans hc4
 have Vd:w2.frozen? ⟨w.heap.size+1+1,0,none⟩=false:=(hb2'.frozen l2).trans (hf4 0)
 have wY:w2.heap[w.heap.size+1+1]?=some (.cells #[.int .i64 0] 26):=(hb2'.block _ l2).trans hr4
 have Ve:w.heap.size+1+1<w2.heap.size:=(Array.getElem?_eq_some_iff.1 wY).1
 go_wp2_with fail
 have hset:=dF (o:=0) (.int .i64 2) wY
 have hfc:(w2.setCell ⟨w.heap.size+1+1,0,none⟩ (.int .i64 2)).cell? ⟨w.heap.size+1+1,0,none⟩=some (.int .i64 2):=(aC hset).1 0
 refine bodyPost_ret (v:=.int .i64 2) (by simp[results,Tryz.results23,go_sem,hfc]) rfl ?_
 exact⟨rfl,(ag hB hb2').setCell (show w.heap.size≤w.heap.size+1+1 by omega) _⟩
theorem ahT(b n e p:Nat)(re:ByteArray)(s:Int)(N:List (ByteArray×Value))(E:List EE)(P:List ah)(r:aN)(d:Entry)(w:World)(h:bU w b n e p re s N E P)(hre:¬re=⟨#[]⟩)(he:bJ w r d)(hv:bT d=true)(hrl:d.name.aF=re)(hpe:¬d.aO=⟨#[]⟩)(hP:P.any (fun x=>decide (x.name=d.aO))=false) :
  Calls Tryz.prog 23 #[.pointer (some ⟨b,0,none⟩),.agg (ae r d)] w fun q w'=>q=.returned (.int .i64 9)∧Below w.heap.size w w':=by
 have Vf:=str_eq _ _ hrl
 have hp0:=kY _ _ hpe
 have hp1:¬d.aO.toList=[]:=fun h=>hpe (toList_inj (b:=⟨#[]⟩) (by rw[h,ByteArray.toList_eq]))
 have hp2:d.aO.toList.isEmpty=false:=by cases h:d.aO.toList<;>simp_all
 obtain⟨hB,ht,jg,hr4,hsz⟩:=GN w b r d
 go_enter Tryz.func23,Tryz.ntmps23
 go_wp2_with fail
 have he':=he.later hB
 have h':=h.later hB
 unfold tZ at hB ht jg hr4 hsz he' h'
 generalize ((w.alloc (.cells #[.pointer (some ⟨b,0,none⟩)] 25)).alloc (.cells (ae r d) 47)).alloc (.cells #[.int .i64 0] 26)=W at *
 obtain⟨c0,c1,c2,c3,c4,f1,hl⟩:=dM h'.box
 refine(jA _ _ _ c0 hre).mono ?_
 rintro x w' ⟨rfl,rfl⟩
 dsimp only
 have mJ:row? W (w.heap.size+1) 0 17=some (ae r d):=by rw[bP jg];exact dm (by simp[go_sem])
 have kK:=(aC jg).1
 have hct:W.cell? ⟨w.heap.size,0,none⟩=some (.pointer (some ⟨b,0,none⟩)):=(aC ht).1 0
 have hc4:W.cell? ⟨w.heap.size+1+1,0,none⟩=some (.int .i64 0):=(aC hr4).1 0
 have hf4:=(aC hr4).2.1
 have l0:w.heap.size<W.heap.size:=by omega
 have l1:w.heap.size+1<W.heap.size:=by omega
 have l2:w.heap.size+1+1<W.heap.size:=by omega
 clear hsz
 go_wp2_with fail
 refine wM (Below.refl _ W) (by kernel_rfl) (by kernel_rfl) ?_
 intro w1 hb1
 repeat (first|(refine ak (by rfl) ?_)|(refine aP (by rfl) (by rfl) (fun K hK=>?_);go_big_quiet_op;refine hK _ ?_;clear hK K))
 refine aT (by rfl) (by rfl) (fun K hK=>?_)
 go_wp2_with fail
 refine(CU r d w1 (he'.later hb1)).mono ?_
 rintro q w2 ⟨rfl,hb2⟩
 rw[hv]
 dsimp only
 have hb2':=ag hb1 hb2
 refine hK _ _ (aA hb2') ?_
 clear hK K
 iterate 12 (refine aP (by kernel_rfl) (by kernel_rfl) (fun K hK=>?_);go_big_quiet_op;refine hK _ ?_;clear hK K)
 refine bQ ?_
 have h2:=h'.later hb2'
 have hlk:∀x:Later w2,(Instr.lookup 86 (.map (some p)) (.string d.aO) true).run Tryz.prog x.w=.ok (.tuple #[.agg (aG lS),.bool false]) x.w:=fun x=>Gq (h2.pm.at (x.b.block p h2.pm.lt)) _ hP
 have ht2:=aJ hb2' ht
 have he2:=aJ hb2' jg
 have hr2:=aJ hb2' hr4
 clear c0 c1 c2 c3 c4 f1 hl mJ kK hct hc4 hf4
 obtain⟨c0,c1,c2,c3,c4,f1,hl⟩:=dM h2.box
 have kK:=(aC he2).1
 have hct:w2.cell? ⟨w.heap.size,0,none⟩=some (.pointer (some ⟨b,0,none⟩)):=(aC ht2).1 0
 have m0:w.heap.size<w2.heap.size:=(Array.getElem?_eq_some_iff.1 ht2).1
 have m1:w.heap.size+1<w2.heap.size:=(Array.getElem?_eq_some_iff.1 he2).1
 go_wp2_with fail
 refine wM (Below.refl _ w2) (by kernel_rfl) (by kernel_rfl) ?_
 intro w3 hb3
 iterate 11 (refine aP (by kernel_rfl) (by kernel_rfl) (fun K hK=>?_);go_big_quiet_op;refine hK _ ?_;clear hK K)
 refine aT (by rfl) (by rfl) (fun K hK=>?_)
 go_wp2_with fail
 refine hK _ _ (aA (aj hb3 _)) ?_
 clear hK K
 refine aT (by rfl) (by rfl) (fun K hK=>?_)
 go_wp2_with fail
 refine hK _ _ (aA (aj hb3 (.cells (aG lS) 50))) ?_
 clear hK K
 iterate 1 (refine aP (by kernel_rfl) (by kernel_rfl) (fun K hK=>?_);go_big_quiet_op;refine hK _ ?_;clear hK K)
 refine bQ ?_
 have hb4:=aj hb3 (.cells (aG lS) 50)
 clear hb3 hlk
 generalize (w3.alloc (.cells (aG lS) 50))=V at *
 have jW:=ag hb2' hb4
 have apu:V.cell? ⟨w.heap.size+1,6,none⟩=some (.string d.aO):=(aC (aJ jW jg)).1 6
 have m1V:w.heap.size+1<V.heap.size:=by have:=hb4.size;omega
 have hc4:W.cell? ⟨w.heap.size+1+1,0,none⟩=some (.int .i64 0):=(aC hr4).1 0
 have hf4:=(aC hr4).2.1
 have hct:=(aC ht).1 0
 have Va:V.cell? ⟨w.heap.size,0,none⟩=some (.pointer (some ⟨b,0,none⟩)):=(jW.cell l0).trans hct
 have Vb:V.cell? ⟨w.heap.size+1+1,0,none⟩=some (.int .i64 0):=(jW.cell l2).trans hc4
 have Vd:V.frozen? ⟨w.heap.size+1+1,0,none⟩=false:=(jW.frozen l2).trans (hf4 0)
 have wY:V.heap[w.heap.size+1+1]?=some (.cells #[.int .i64 0] 26):=(jW.block _ l2).trans hr4
 have Ve:w.heap.size+1+1<V.heap.size:=(Array.getElem?_eq_some_iff.1 wY).1
 go_wp2_with fail
 have hset:=dF (o:=0) (.int .i64 9) wY
 have hfc:(V.setCell ⟨w.heap.size+1+1,0,none⟩ (.int .i64 9)).cell? ⟨w.heap.size+1+1,0,none⟩=some (.int .i64 9):=(aC hset).1 0
 refine bodyPost_ret (v:=.int .i64 9) (by simp[results,Tryz.results23,go_sem,hfc]) rfl ?_
 exact⟨rfl,(ag hB jW).setCell (show w.heap.size≤w.heap.size+1+1 by omega) _⟩
end Go.Proofs.YtfieenjdcpjmgaaGreatDoor
