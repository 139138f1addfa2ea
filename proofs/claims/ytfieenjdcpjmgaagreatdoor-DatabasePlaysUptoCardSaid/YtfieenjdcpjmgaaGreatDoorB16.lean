/- A part of the proof. -/
import Derived.Test.YtfieenjdcpjmgaaGreatDoorB15
import Derived.Test.YtfieenjdcpjmgaaGreatDoorB12
import Derived.Test.YtfieenjdcpjmgaaGreatDoorB08
set_option maxRecDepth 100000
set_option maxHeartbeats 2000000
namespace Go.WW
open Go.RowKit
def rG(N:List (ByteArray×Value))(ps:List az):List (ByteArray×Value):=ps.foldl (fun m p=>lG m (textOf p)) N
theorem aid(N:List (ByteArray×Value))(ps:List az)(p:az):rG N (ps++[p])=lG (rG N ps) (textOf p):=by simp[rG]
theorem take_snoc{α:Type}{l:List α}{k:Nat}{x:α}(h:l[k]?=some x):l.take (k+1)=l.take k++[x]:=by rw[List.take_add_one,h];rfl
def ql(E:List EE)(k:ByteArray):List EE:=E.filter fun y=>decide (textOf y.2.name≠k)
theorem aie(E:List EE)(k:ByteArray):lG (E.map fun x=>(textOf x.2.name,Value.agg (cu x))) k=(ql E k).map fun x=>(textOf x.2.name,Value.agg (cu x)):=by
 unfold lG ql
 rw[List.filter_map]
 rfl
theorem But.past{S T:Nat→Prop}{w a b:World}(h:But S w a)(k:But T a b)(hT:∀j,T j→w.heap.size≤j):But S w b:=
 ⟨k.os.trans h.os,k.tape.trans h.tape,k.output.trans h.output,Nat.le_trans h.size k.size,fun j hj hn=>(k.block j (Nat.lt_of_lt_of_le hj h.size) (fun t=>by have:=hT j t;omega)).trans (h.block j hj hn)⟩
end Go.WW
namespace Go.Proofs.YtfieenjdcpjmgaaGreatDoor
open Go.RowKit Go.WW
theorem AQ{w:World}{e:Nat}{E:List EE}(h:MapOf w e (E.map fun x=>(textOf x.2.name,Value.agg (cu x))))(x:EE)(hx:x∈E):(Instr.lookup 85 (.map (some e)) (.string (textOf x.2.name)) true).run Tryz.prog w=.ok (.tuple #[.agg (ae x.1 x.2),.bool true]) w:=by
 have:=Gq (P:=Tryz.prog) true Tryz.underlying85 Tryz.underlying9 h (List.mem_map.2 ⟨x,hx,rfl⟩)
 exact this
attribute [local go_sem] Oper.semAt_some
theorem aif(b n e p:Nat)(re:ByteArray)(s:Int)(N:List (ByteArray×Value))(E:List EE)(P:List ai)(x:EE)(w:World)(h:bU w b n e p re s N E P)(hx:x∈E)(he:bK w x.1 x.2)(hok:∀q∈x.2.name::x.2.aliases,bG q=true) :
  Calls Tryz.prog 72 #[.pointer (some ⟨b,0,none⟩),.string (textOf x.2.name)] w fun r w'=>r=.returned (.tuple #[])∧But (aZ b n e p) w w'∧bU w' b n e p re s (rG N (x.2.name::x.2.aliases)) (ql E (textOf x.2.name)) P:=by
 have hB:Below w.heap.size w (w.alloc (.cells #[.pointer (some ⟨b,0,none⟩)] 174)):=(Below.refl _ _).alloc (Nat.le_refl _) _
 have h':=h.later hB
 have hx3:(w.alloc (.cells #[.pointer (some ⟨b,0,none⟩)] 174)).heap[w.heap.size]?=some (.cells #[.pointer (some ⟨b,0,none⟩)] 174):=World.alloc_heap_new _ _
 refine(callsIn_wide (n:=0)).1 ?_
 refine callsIn_of_wp_marks Tryz.func72 rfl trivial ?_ rfl
 simp only[Tryz.ntmps72,List.size_toArray,List.length_cons,List.length_nil,Nat.reduceAdd,Nat.reduceSub,Array.replicate_succ,Array.replicate_zero,List.push_toArray,List.append_toArray,List.nil_append,List.cons_append]
 have hlk:=AQ h'.em x hx
 obtain⟨c0,c1,c2,c3,c4,f1,hl⟩:=dO h'.box
 have hWs:(w.alloc (.cells #[.pointer (some ⟨b,0,none⟩)] 174)).heap.size=w.heap.size+1:=by simp
 have hct:(w.alloc (.cells #[.pointer (some ⟨b,0,none⟩)] 174)).cell? ⟨w.heap.size,0,none⟩=some (.pointer (some ⟨b,0,none⟩)):=(aB hx3).1 0
 gi_wp2
 have hB2:Below w.heap.size w ((w.alloc (.cells #[.pointer (some ⟨b,0,none⟩)] 174)).alloc (.cells (ae x.1 x.2) 47)):=aj hB _
 have ht2:((w.alloc (.cells #[.pointer (some ⟨b,0,none⟩)] 174)).alloc (.cells (ae x.1 x.2) 47)).heap[w.heap.size]?=some (.cells #[.pointer (some ⟨b,0,none⟩)] 174):=(Below.heap_alloc _ _ _ (by simp)).trans hx3
 have hs2:w.heap.size<((w.alloc (.cells #[.pointer (some ⟨b,0,none⟩)] 174)).alloc (.cells (ae x.1 x.2) 47)).heap.size:=by simp;omega
 clear hB h' hx3 hlk c0 c1 c2 c3 c4 f1 hl hWs hct
 generalize (w.alloc (.cells #[.pointer (some ⟨b,0,none⟩)] 174)).alloc (.cells (ae x.1 x.2) 47)=W2 at *
 refine⟨trivial,rfl,(callsIn_wide.2 (LG _ _ _ (he.later hB2))).mono ?_⟩
 rintro r w3 ⟨bN,sN,X,rfl,hb3,hbN,Dy,hX,hd⟩
 have hB3:=ag hB2 hb3
 have h3:=h.later hB3
 have ht3:=aJ hb3 ht2
 have hs3:=hb3.size
 have hnl:=h.nm.lt
 have hws:=hB3.size
 dsimp only
 gi_wp2
 refine(wpIn_wide (n:=0)).2 ?_
 refine GL (gf:=126) (lb:=#[.pointer (some ⟨bN,0,none⟩)]) (by simp[go_sem]) (enters_of Tryz.func126 (by kernel_rfl) rfl) (S:=one n) ?_ (xs:=X) (V:=VN) ?_ (LM bN sN X (one n) w3 Dy ?_ ?_)
  (fun c1 k Wc=>But (one n) w3 Wc∧MapOf Wc n (rG N ((X.map (·.2)).take k))∧w3.heap.size<c1) (fun _ _ _ _=>False) ?_ ?_ ?_ ?_ ?_ ?_
 ·rintro k (rfl:k=n);omega
 ·rintro c1 xx v W0 Wc ⟨s',rfl,_⟩;rfl
 ·rintro k (rfl:k=n);omega
 ·intro y hy
  exact hd y fun k hk=>hy.block k hk.2 fun hk'=>by
   rcases hk' with(e:k=n)|e
   ·have:=hk.1;have:=hB2.size;omega
   ·have:=hk.2;omega
 ·intro c1 Wc h1 h2 hb
  exact⟨But.of_below hb,h3.nm.at (hb.block n h3.nm.lt),h1⟩
 ·rintro c1 k Wc yJ ⟨h1,h2,h4⟩ hb
  refine⟨h1.past hb (fun j hj=>hj.1),h2.at (hb.block n h2.lt fun hj=>?_),h4⟩
  have:=hj.1
  have:=h3.nm.lt
  omega
 ·rintro c c1 k Wc yJ hf
  exact hf.elim
 ·rintro c1 k xx v W0 Wc hxx ⟨s',rfl,hp⟩ ⟨rF,hm0,hc0⟩ hbs hc1 xm
  have hsW:=hbs.size
  have hc2:c1≤Wc.heap.size:=Nat.le_trans xm hsW
  have hbu:But (one n) w3 Wc:=rF.past hbs (fun j hj=>hj.1)
  have hm:=hm0.at (hbs.block n hm0.lt (fun hj=>by have:=hj.1;have:=h3.nm.lt;omega))
  clear rF hm0 hbs
  obtain⟨s0,q⟩:=xx
  have hqm:(X.map (·.2))[k]?=some q:=by rw[List.getElem?_map,hxx];rfl
  have AU:bG q=true:=hok q (by rw[←hX];exact List.mem_of_getElem? hqm)
  have HP:=Lib.hid hp
  clear hp
  dsimp only
  gi_wp2
  have hal:Below Wc.heap.size Wc (Wc.alloc (.cells (ah s' q) 40)):=(Below.refl _ _).alloc (Nat.le_refl _) _
  refine⟨hal,fun U hU=>?_⟩
  have qj:U.heap[Wc.heap.size]?=some (.cells (ah s' q) 40):=(hU.block _ (by simp) (bu (by omega))).trans (World.alloc_heap_new _ _)
  have LX:Wc.heap.size<U.heap.size:=(Array.getElem?_eq_some_iff.1 qj).1
  have mf:But (one n) w3 U:=(hbu.trans (But.of_below hal)).past hU (fun j hj=>by have:j=_:=hj;omega)
  have rC:MapOf U n (rG N ((X.map (·.2)).take k)):=hm.at ((hU.block n (by have:=hm.lt;simp;omega) (bu (by have:=h3.nm.lt;omega))).trans (hal.block n hm.lt))
  have vC:bn U s' q:=HP.out U fun j hj=>(hU.block j (by have:=hj.2;simp;omega) (bu (by have:=hj.1;omega))).trans (hal.block j hj.2)
  have hbn:b≠n:=fM h3.box h3.nm
  have htn:w.heap.size≠n:=by omega
  have jY:U.heap[b]?=some (.cells (lI re s n e p) 90):=(mf.block b (Array.getElem?_eq_some_iff.1 h3.box).1 (bu hbn)).trans h3.box
  have yK:U.heap[w.heap.size]?=some (.cells #[.pointer (some ⟨b,0,none⟩)] 174):=(mf.block _ (Array.getElem?_eq_some_iff.1 ht3).1 (bu htn)).trans ht3
  clear hal hU hbu HP hm hsW
  obtain⟨c0,c1',c2,c3,c4,f1,hl⟩:=dO jY
  have hct:U.cell? ⟨w.heap.size,0,none⟩=some (.pointer (some ⟨b,0,none⟩)):=(aB yK).1 0
  have hlt:w.heap.size<U.heap.size:=(Array.getElem?_eq_some_iff.1 yK).1
  have iJ:row? U Wc.heap.size 0 2=some (ah s' q):=by rw[bQ qj];exact df (by simp[go_sem])
  have n1:=bu hbn
  have n2:=bu htn
  have n3:¬one n Wc.heap.size:=bu (by have:=h3.nm.lt;omega)
  gi_wp2
  refine TI.GK (one n) (But.refl _ U) (by kernel_rfl) (by kernel_rfl) (by kernel_rfl) ?_
  repeat (first|(refine TI.ax (by rfl) ?_)|(refine TI.aI (by rfl) (by rfl) (fun K hK=>?_);go_big_quiet_op;refine hK _ ?_;clear hK K))
  refine TI.aK (by rfl) (by rfl) (by rfl) (fun K hK=>?_)
  go_wp2_with fail
  refine(ru _ _ U.drew (vC.later (Below.refl _ _).drew) AU).mono ?_
  rintro r U2 ⟨rfl,hbk⟩
  dsimp only
  have hbb:Below U.heap.size U U2:=(Below.refl _ U).drew.trans hbk
  refine hK _ _ (dw (But.of_below hbb)) ?_
  clear hK K
  obtain⟨U3,hrun,yL,iW,Vg⟩:=KD (P:=Tryz.prog) (k:=textOf q) (ty:=0) (nJ:=#[84,9]) rfl Tryz.underlying84 Tryz.underlying9 (rC.at (hbb.block n rC.lt))
  have yM:But (one n) U U3:=(But.of_below hbb).trans ⟨iW.os,iW.tape,iW.output,iW.size,iW.block⟩
  refine TI.aK (by rfl) (by rfl) (by rfl) (fun K hK=>?_)
  go_wp2_with fail
  refine hK _ _ (dw yM) ?_
  clear hK K
  refine TI.bV ?_
  gi_wp2
  refine⟨yM.mono fun _ h=>.inl h,mf.trans yM,?_,by omega⟩
  rw[←hX,take_snoc hqm,aid]
  exact yL
 ·rintro c1 Wc ⟨hbu,hm,hc0⟩ hD
  rw[List.take_of_length_le (by simp),hX]at hm
  have hbn:b≠n:=fM h3.box h3.nm
  have htn:w.heap.size≠n:=by omega
  have hen:e≠n:=fun e'=>h.ne.1 e'.symm
  have jY:Wc.heap[b]?=some (.cells (lI re s n e p) 90):=(hbu.block b (Array.getElem?_eq_some_iff.1 h3.box).1 (bu hbn)).trans h3.box
  have yK:Wc.heap[w.heap.size]?=some (.cells #[.pointer (some ⟨b,0,none⟩)] 174):=(hbu.block _ (Array.getElem?_eq_some_iff.1 ht3).1 (bu htn)).trans ht3
  have hme:=h3.em.at (hbu.block e h3.em.lt (bu hen))
  obtain⟨U3,hrun,yL,iW,Vg⟩:=KD (P:=Tryz.prog) (k:=textOf x.2.name) (ty:=0) (nJ:=#[85,9]) rfl Tryz.underlying85 Tryz.underlying9 hme
  rw[aie]at yL
  obtain⟨k0,k1,k2,k3,k4,f1,hl⟩:=dO jY
  have hct:Wc.cell? ⟨w.heap.size,0,none⟩=some (.pointer (some ⟨b,0,none⟩)):=(aB yK).1 0
  gi_wp2
  have hD3:U3.heap[w3.heap.size]?=some (.deferred (some [])):=(iW.block _ (Array.getElem?_eq_some_iff.1 hD).1 (by have:=h3.em.lt;omega)).trans hD
  refine⟨by simp,.inl ⟨_,_,rfl,run_takeDeferred hD3,?_⟩⟩
  have hfin:But (one w3.heap.size) U3 (U3.putObj w3.heap.size (.deferred none)):=But.putObj _
  have he3:=h3.em.lt
  have hn3:=h3.nm.lt
  have hp3:=h3.pm.lt
  have hall:But (aZ b n e p) w U3:=((But.of_below hB3).trans (hbu.mono fun k (hk:k=n)=>.inr (.inl hk))).trans (iW.mono fun k (hk:k=e)=>.inr (.inr (.inl hk)))
  have hbe:b≠e:=fM h3.box h3.em
  refine⟨.tuple #[],by simp[results,Tryz.f72,go_sem],rfl,hall.past hfin (fun j hj=>by have:j=_:=hj;omega),?_,?_,?_,?_,h.ne⟩
  ·exact(hfin.block b (by have:=iW.size;omega) (bu (by have:=(Array.getElem?_eq_some_iff.1 h3.box).1;omega))).trans ((iW.block b hl hbe).trans jY)
  ·exact hm.at ((hfin.block n (by have:=iW.size;have:=hm.lt;omega) (bu (by omega))).trans (iW.block n hm.lt (fun e'=>h.ne.1 e')))
  ·exact yL.at (hfin.block e yL.lt (bu (by omega)))
  ·have hpm:=h3.pm.at (hbu.block p h3.pm.lt (bu (fun e'=>h.ne.2.1 e'.symm)))
   exact hpm.at ((hfin.block p (by have:=iW.size;have:=hpm.lt;omega) (bu (by omega))).trans (iW.block p hpm.lt (fun e'=>h.ne.2.2 e'.symm)))
 ·intro c c1 k Wc hf
  exact hf.elim
end Go.Proofs.YtfieenjdcpjmgaaGreatDoor
namespace Go.WW
open Go.RowKit
def tY(N:List (ByteArray×Value))(E:List EE)(k:ByteArray)(N1:List (ByteArray×Value))(E1:List EE):Prop:=
 (∃x∈E,textOf x.2.name=k∧N1=rG N (x.2.name::x.2.aliases)∧E1=ql E k)∨((∀x∈E,textOf x.2.name≠k)∧N1=N∧E1=E)
theorem tY.no{N N1:List (ByteArray×Value)}{E E1:List EE}{k:ByteArray}(h:tY N E k N1 E1):∀y∈E1,textOf y.2.name≠k:=by
 rcases h with⟨x,hx,rfl,rfl,rfl⟩|⟨h,rfl,rfl⟩
 ·intro y hy
  simpa[ql]using(List.mem_filter.1 hy).2
 ·exact h
def rH(N:List (ByteArray×Value))(k:ByteArray)(ps:List az):List (ByteArray×Value):=ps.foldl (fun m p=>oh m (textOf p) (.string k)) N
theorem aih(N:List (ByteArray×Value))(k:ByteArray)(ps:List az)(p:az):rH N k (ps++[p])=oh (rH N k ps) (textOf p) (.string k):=by simp[rH]
theorem aii(E:List EE)(x:EE)(h:∀y∈E,textOf y.2.name≠textOf x.2.name):oh (E.map fun x=>(textOf x.2.name,Value.agg (cu x))) (textOf x.2.name) (.agg (cu x))=(E++[x]).map fun x=>(textOf x.2.name,Value.agg (cu x)):=by
 have hk:hasK (E.map fun x=>(textOf x.2.name,Value.agg (cu x))) (textOf x.2.name)=false:=by
  unfold hasK
  rw[List.any_eq_false]
  intro y hy
  obtain⟨z,hz,rfl⟩:=List.mem_map.1 hy
  simpa using h z hz
 unfold oh
 rw[hk]
 simp
def mg(S:Nat→Prop)(w:World)(x:EE):Prop:=∀y,But S w y→bK y x.1 x.2
theorem mg.on{S:Nat→Prop}{w w':World}{x:EE}(h:mg S w x)(hb:But S w w'):mg S w' x:=fun y hy=>h y (hb.trans hy)
theorem mg.out{S:Nat→Prop}{w:World}{x:EE}(h:mg S w x):bK w x.1 x.2:=h w (But.refl _ _)
def AV(d:Entry):Prop:=∀q∈d.name::d.aliases,bG q=true
end Go.WW
namespace Go.Proofs.YtfieenjdcpjmgaaGreatDoor
open Go.RowKit Go.WW
theorem AX{w:World}{e:Nat}{E:List EE}(h:MapOf w e (E.map fun x=>(textOf x.2.name,Value.agg (cu x))))(k:ByteArray)(hk:∀x∈E,textOf x.2.name≠k):(Instr.lookup 85 (.map (some e)) (.string k) true).run Tryz.prog w=.ok (.tuple #[.agg (ae aW aQ),.bool false]) w:=by
 have hn:k∉(E.map fun x=>(textOf x.2.name,Value.agg (cu x))).map (·.1):=by
  intro hk'
  rw[List.map_map]at hk'
  obtain⟨x,hx,e⟩:=List.mem_map.1 hk'
  exact hk x hx e
 have:=Gs (P:=Tryz.prog) (z:=.agg (ae aW aQ)) true Tryz.underlying85 Tryz.underlying9 h (by kernel_rfl) hn
 simpa using this
theorem aij(b n e p:Nat)(re:ByteArray)(s:Int)(N:List (ByteArray×Value))(E:List EE)(P:List ai)(k:ByteArray)(w:World)(h:bU w b n e p re s N E P)(hk:∀x∈E,textOf x.2.name≠k) :
  Calls Tryz.prog 72 #[.pointer (some ⟨b,0,none⟩),.string k] w fun r w'=>r=.returned (.tuple #[])∧Below w.heap.size w w':=by
 have hB:Below w.heap.size w (w.alloc (.cells #[.pointer (some ⟨b,0,none⟩)] 174)):=(Below.refl _ _).alloc (Nat.le_refl _) _
 have h':=h.later hB
 have hlk:=AX h'.em k hk
 obtain⟨c0,c1,c2,c3,c4,f1,hl⟩:=dO h'.box
 go_enter Tryz.func72,Tryz.ntmps72
 go_wp2_with fail
 refine bodyPost_ret (results_none rfl _ _ _) rfl ⟨rfl,aj hB _⟩
theorem LY(b n e p:Nat)(re:ByteArray)(s:Int)(N N1:List (ByteArray×Value))(E E1:List EE)(P:List ai)(k:ByteArray)(w:World)(h:bU w b n e p re s N E P)(hE:∀x∈E,mg (aZ b n e p) w x∧AV x.2)(hR:tY N E k N1 E1) :
  Calls Tryz.prog 72 #[.pointer (some ⟨b,0,none⟩),.string k] w fun r w'=>r=.returned (.tuple #[])∧But (aZ b n e p) w w'∧bU w' b n e p re s N1 E1 P:=by
 rcases hR with⟨x,hx,rfl,rfl,rfl⟩|⟨hk,rfl,rfl⟩
 ·exact aif b n e p re s N E P x w h hx (hE x hx).1.out (hE x hx).2
 ·refine(aij b n e p re s _ _ P k w h hk).mono ?_
  rintro r w' ⟨rfl,hb⟩
  exact⟨rfl,But.of_below hb,h.later hb⟩
attribute [local go_sem] Oper.semAt_some
theorem aik(b n e p:Nat)(re:ByteArray)(s:Int)(N N1:List (ByteArray×Value))(E E1:List EE)(P:List ai)(r:aN)(d:Entry)(w:World)(h:bU w b n e p re s N E P)(hE:∀x∈E,mg (aZ b n e p) w x∧AV x.2)(hR:tY N E (textOf d.name) N1 E1)(he:mg (aZ b n e p) w (r,d))(hok:AV d) :
  Calls Tryz.prog 66 #[.pointer (some ⟨b,0,none⟩),.agg (ae r d)] w fun q w'=>q=.returned (.tuple #[])∧But (aZ b n e p) w w'∧bU w' b n e p re s (rH N1 (textOf d.name) (d.name::d.aliases)) (E1++[(r,d)]) P:=by
 have hB:Below w.heap.size w ((w.alloc (.cells #[.pointer (some ⟨b,0,none⟩)] 174)).alloc (.cells (ae r d) 47)):=aj ((Below.refl _ _).alloc (Nat.le_refl _) _) _
 have ht0:((w.alloc (.cells #[.pointer (some ⟨b,0,none⟩)] 174)).alloc (.cells (ae r d) 47)).heap[w.heap.size]?=some (.cells #[.pointer (some ⟨b,0,none⟩)] 174):=jq _ _ _
 have he0:((w.alloc (.cells #[.pointer (some ⟨b,0,none⟩)] 174)).alloc (.cells (ae r d) 47)).heap[w.heap.size+1]?=some (.cells (ae r d) 47):=by
  have:=World.alloc_heap_new (w.alloc (.cells #[.pointer (some ⟨b,0,none⟩)] 174)) (.cells (ae r d) 47)
  rwa[World.size_alloc]at this
 refine(callsIn_wide (n:=0)).1 ?_
 refine callsIn_of_wp_marks Tryz.func66 rfl trivial ?_ rfl
 simp only[Tryz.ntmps66,List.size_toArray,List.length_cons,List.length_nil,Nat.reduceAdd,Nat.reduceSub,Array.replicate_succ,Array.replicate_zero,List.push_toArray,List.append_toArray,List.nil_append,List.cons_append]
 gi_wp2
 generalize (w.alloc (.cells #[.pointer (some ⟨b,0,none⟩)] 174)).alloc (.cells (ae r d) 47)=W at *
 have h1:=h.later hB
 have hnb:∀k,w.heap.size≤k→¬aZ b n e p k:=fun k hk hd=>by
  have q1:=(Array.getElem?_eq_some_iff.1 h.box).1
  have q2:=h.nm.lt
  have q3:=h.em.lt
  have q4:=h.pm.lt
  rcases hd with rfl|rfl|rfl|rfl<;>omega
 have n0:=hnb w.heap.size (Nat.le_refl _)
 have n1:=hnb (w.heap.size+1) (by omega)
 have hct:W.cell? ⟨w.heap.size,0,none⟩=some (.pointer (some ⟨b,0,none⟩)):=(aB ht0).1 0
 have hl0:w.heap.size<W.heap.size:=(Array.getElem?_eq_some_iff.1 ht0).1
 have hl1:w.heap.size+1<W.heap.size:=(Array.getElem?_eq_some_iff.1 he0).1
 have hre:row? W (w.heap.size+1) 0 17=some (ae r d):=by rw[bQ he0];exact df (by simp[go_sem])
 have hrn:=uV hre
 have hno:∀q,q=d.name→bG q=true:=fun q hq=>hok q (by simp[hq])
 refine(wpIn_wide (n:=0)).2 ?_
 refine oZ (aZ b n e p) (But.refl _ W) (by kernel_rfl) (by kernel_rfl) ?_
 repeat (first|(refine ax (by rfl) ?_)|(refine aP (by rfl) (by rfl) (fun K hK=>?_);go_big_quiet_op;refine hK _ ?_;clear hK K))
 refine aU (by rfl) (by rfl) (fun K hK=>?_)
 go_wp2_with fail
 refine(ru _ _ W.drew ((he.out.name.later hB).later (Below.refl _ _).drew) (hno _ rfl)).mono ?_
 rintro q W1 ⟨rfl,hbk⟩
 dsimp only
 have hb1:Below W.heap.size W W1:=(Below.refl _ W).drew.trans hbk
 refine hK _ _ (dw (But.of_below hb1)) ?_
 clear hK K
 repeat (first|(refine ax (by rfl) ?_)|(refine aP (by rfl) (by rfl) (fun K hK=>?_);go_big_quiet_op;refine hK _ ?_;clear hK K))
 refine aU (by rfl) (by rfl) (fun K hK=>?_)
 go_wp2_with fail
 have hBW1:=ag hB hb1
 refine(LY b n e p re s N N1 E E1 P _ W1 (h1.later hb1) (fun x hx=>⟨(hE x hx).1.on (But.of_below hBW1),(hE x hx).2⟩) hR).mono ?_
 rintro q W2 ⟨rfl,hb2,h2⟩
 dsimp only
 have hbW2:But (aZ b n e p) W W2:=(But.of_below hb1).trans hb2
 refine hK _ _ (dw hbW2) ?_
 clear hK K
 refine bV ?_
 have qX:But (aZ b n e p) w W2:=(But.of_below hB).trans hbW2
 have ht2:W2.heap[w.heap.size]?=some (.cells #[.pointer (some ⟨b,0,none⟩)] 174):=(hbW2.block _ hl0 n0).trans ht0
 have he2:W2.heap[w.heap.size+1]?=some (.cells (ae r d) 47):=(hbW2.block _ hl1 n1).trans he0
 clear hct hl0 hl1 hre hrn ht0 he0 hb1 hbk hBW1 hb2 hbW2 hB h1
 have hws:w.heap.size≤W2.heap.size:=qX.size
 obtain⟨c0,c1,c2,c3,c4,f1,hl⟩:=dO h2.box
 have hct:W2.cell? ⟨w.heap.size,0,none⟩=some (.pointer (some ⟨b,0,none⟩)):=(aB ht2).1 0
 have hl0:w.heap.size<W2.heap.size:=(Array.getElem?_eq_some_iff.1 ht2).1
 have hl1:w.heap.size+1<W2.heap.size:=(Array.getElem?_eq_some_iff.1 he2).1
 have hre:row? W2 (w.heap.size+1) 0 17=some (ae r d):=by rw[bQ he2];exact df (by simp[go_sem])
 have hrn:=uV hre
 have hel:=h.em.lt
 have m0:¬one e w.heap.size:=bu (by omega)
 have m1:¬one e (w.heap.size+1):=bu (by omega)
 have m2:¬one e b:=bu (fM h.box h.em)
 gi_wp2
 refine(wpIn_wide (n:=0)).2 ?_
 refine oZ (one e) (But.refl _ W2) (by kernel_rfl) (by kernel_rfl) ?_
 repeat (first|(refine ax (by rfl) ?_)|(refine aP (by rfl) (by rfl) (fun K hK=>?_);go_big_quiet_op;refine hK _ ?_;clear hK K))
 refine aU (by rfl) (by rfl) (fun K hK=>?_)
 go_wp2_with fail
 refine(ru _ _ W2.drew ((he W2 qX).name.later (Below.refl _ _).drew) (hno _ rfl)).mono ?_
 rintro q W3 ⟨rfl,hbk⟩
 dsimp only
 have hb3:Below W2.heap.size W2 W3:=(Below.refl _ W2).drew.trans hbk
 refine hK _ _ (dw (But.of_below hb3)) ?_
 clear hK K
 repeat (first|(refine ax (by rfl) ?_)|(refine aP (by rfl) (by rfl) (fun K hK=>?_);go_big_quiet_op;refine hK _ ?_;clear hK K))
 obtain⟨W4,hrun,LZ,hb4,hs4⟩:=AA (P:=Tryz.prog) (k:=textOf d.name) (v:=.agg (ae r d)) Tryz.underlying85 Tryz.underlying9 (h2.em.at (hb3.block e h2.em.lt))
 rw[show Value.agg (ae r d)=Value.agg (cu (r,d)) from rfl,aii E1 (r,d) hR.no]at LZ
 have jZ:But (one e) W2 W4:=(But.of_below hb3).trans ⟨hb4.os,hb4.tape,hb4.output,hb4.size,hb4.block⟩
 refine aU (by rfl) (by rfl) (fun K hK=>?_)
 go_wp2_with fail
 refine hK _ _ (dw jZ) ?_
 clear hK K
 refine bV ?_
 have L6:But (aZ b n e p) w W4:=qX.trans (jZ.mono fun k hk=>.inr (.inr (.inl hk)))
 have Vh:W4.heap[w.heap.size]?=some (.cells #[.pointer (some ⟨b,0,none⟩)] 174):=(jZ.block _ hl0 m0).trans ht2
 have he4:W4.heap[w.heap.size+1]?=some (.cells (ae r d) 47):=(jZ.block _ hl1 m1).trans he2
 have h4:bU W4 b n e p re s N1 (E1++[(r,d)]) P:=⟨(jZ.block b hl m2).trans h2.box,h2.nm.at (jZ.block n h2.nm.lt (bu h.ne.1)),LZ,h2.pm.at (jZ.block p h2.pm.lt (bu (fun e'=>h.ne.2.2 e'.symm))),h.ne⟩
 clear hct hl0 hl1 hre hrn c0 c1 c2 c3 c4 f1 hl hrun LZ hb4 hs4 hbk hb3 jZ
 have hct:W4.cell? ⟨w.heap.size,0,none⟩=some (.pointer (some ⟨b,0,none⟩)):=(aB Vh).1 0
 have hl1:w.heap.size+1<W4.heap.size:=(Array.getElem?_eq_some_iff.1 he4).1
 have hre:row? W4 (w.heap.size+1) 0 17=some (ae r d):=by rw[bQ he4];exact df (by simp[go_sem])
 gi_wp2
 refine⟨trivial,rfl,(callsIn_wide.2 (LG _ _ _ (he W4 L6))).mono ?_⟩
 rintro q w3 ⟨bN,sN,X,rfl,hb3,hbN,Dy,hX,hd⟩
 have h3:=h4.later hb3
 have Aj:But (aZ b n e p) w w3:=L6.trans (But.of_below hb3)
 have ht3:=aJ hb3 Vh
 have he3:=aJ hb3 he4
 have hs3:=hb3.size
 have hnl:=h.nm.lt
 have hw4:=L6.size
 clear hct hl1 hre ht2 he2 h2 qX
 dsimp only
 gi_wp2
 refine(wpIn_wide (n:=0)).2 ?_
 refine GL (gf:=126) (lb:=#[.pointer (some ⟨bN,0,none⟩)]) (by simp[go_sem]) (enters_of Tryz.func126 (by kernel_rfl) rfl) (S:=one n) ?_ (xs:=X) (V:=VN) ?_ (LM bN sN X (one n) w3 Dy ?_ ?_)
  (fun c1 k Wc=>But (one n) w3 Wc∧MapOf Wc n (rH N1 (textOf d.name) ((X.map (·.2)).take k))∧w3.heap.size<c1) (fun _ _ _ _=>False) ?_ ?_ ?_ ?_ ?_ ?_
 ·rintro k (rfl:k=n);omega
 ·rintro c1 xx v W0 Wc ⟨s',rfl,_⟩;rfl
 ·rintro k (rfl:k=n);omega
 ·intro y hy
  exact hd y fun k hk=>hy.block k hk.2 fun hk'=>by
   rcases hk' with(e:k=n)|e
   ·have:=hk.1;omega
   ·have:=hk.2;omega
 ·intro c1 Wc h1 h2 hb
  exact⟨But.of_below hb,h3.nm.at (hb.block n h3.nm.lt),h1⟩
 ·rintro c1 k Wc yJ ⟨h1,h2,h4⟩ hb
  refine⟨h1.past hb (fun j hj=>hj.1),h2.at (hb.block n h2.lt fun hj=>?_),h4⟩
  have:=hj.1
  have:=h3.nm.lt
  omega
 ·rintro c c1 k Wc yJ hf
  exact hf.elim
 ·rintro c1 k xx v W0 Wc hxx ⟨s',rfl,hp⟩ ⟨rF,hm0,hc0⟩ hbs hc1 xm
  have hsW:=hbs.size
  have hc2:c1≤Wc.heap.size:=Nat.le_trans xm hsW
  have hbu:But (one n) w3 Wc:=rF.past hbs (fun j hj=>hj.1)
  have hm:=hm0.at (hbs.block n hm0.lt (fun hj=>by have:=hj.1;have:=h3.nm.lt;omega))
  clear rF hm0 hbs
  obtain⟨s0,q⟩:=xx
  have hqm:(X.map (·.2))[k]?=some q:=by rw[List.getElem?_map,hxx];rfl
  have AU:bG q=true:=hok q (by rw[←hX];exact List.mem_of_getElem? hqm)
  have HP:=Lib.hid hp
  clear hp
  dsimp only
  gi_wp2
  have hal:Below Wc.heap.size Wc (Wc.alloc (.cells (ah s' q) 40)):=(Below.refl _ _).alloc (Nat.le_refl _) _
  refine⟨hal,fun U hU=>?_⟩
  have qj:U.heap[Wc.heap.size]?=some (.cells (ah s' q) 40):=(hU.block _ (by simp) (bu (by omega))).trans (World.alloc_heap_new _ _)
  have LX:Wc.heap.size<U.heap.size:=(Array.getElem?_eq_some_iff.1 qj).1
  have mf:But (one n) w3 U:=(hbu.trans (But.of_below hal)).past hU (fun j hj=>by have:j=_:=hj;omega)
  have rC:MapOf U n (rH N1 (textOf d.name) ((X.map (·.2)).take k)):=hm.at ((hU.block n (by have:=hm.lt;simp;omega) (bu (by have:=h3.nm.lt;omega))).trans (hal.block n hm.lt))
  have vC:bn U s' q:=HP.out U fun j hj=>(hU.block j (by have:=hj.2;simp;omega) (bu (by have:=hj.1;omega))).trans (hal.block j hj.2)
  have L8:bn U r.parts d.name:=(he U (Aj.trans (mf.mono fun j hj=>.inr (.inl hj)))).name
  have hbn:b≠n:=fM h3.box h3.nm
  have htn:w.heap.size≠n:=by omega
  have Vj:w.heap.size+1≠n:=by omega
  have jY:U.heap[b]?=some (.cells (lI re s n e p) 90):=(mf.block b (Array.getElem?_eq_some_iff.1 h3.box).1 (bu hbn)).trans h3.box
  have yK:U.heap[w.heap.size]?=some (.cells #[.pointer (some ⟨b,0,none⟩)] 174):=(mf.block _ (Array.getElem?_eq_some_iff.1 ht3).1 (bu htn)).trans ht3
  have Vk:U.heap[w.heap.size+1]?=some (.cells (ae r d) 47):=(mf.block _ (Array.getElem?_eq_some_iff.1 he3).1 (bu Vj)).trans he3
  clear hal hU hbu HP hm hsW
  obtain⟨c0,c1',c2,c3,c4,f1,hl⟩:=dO jY
  have hct:U.cell? ⟨w.heap.size,0,none⟩=some (.pointer (some ⟨b,0,none⟩)):=(aB yK).1 0
  have hlt:w.heap.size<U.heap.size:=(Array.getElem?_eq_some_iff.1 yK).1
  have hlt1:w.heap.size+1<U.heap.size:=(Array.getElem?_eq_some_iff.1 Vk).1
  have iJ:row? U Wc.heap.size 0 2=some (ah s' q):=by rw[bQ qj];exact df (by simp[go_sem])
  have hrn:row? U (w.heap.size+1) 0 2=some (ah r.parts d.name):=uV (d:=d) (by rw[bQ Vk];exact df (by simp[go_sem]))
  have o1:=bu hbn
  have o2:=bu htn
  have o4:=bu Vj
  have o3:¬one n Wc.heap.size:=bu (by have:=h3.nm.lt;omega)
  gi_wp2
  refine TI.GK (one n) (But.refl _ U) (by kernel_rfl) (by kernel_rfl) (by kernel_rfl) ?_
  repeat (first|(refine TI.ax (by rfl) ?_)|(refine TI.aI (by rfl) (by rfl) (fun K hK=>?_);go_big_quiet_op;refine hK _ ?_;clear hK K))
  refine TI.aK (by rfl) (by rfl) (by rfl) (fun K hK=>?_)
  go_wp2_with fail
  refine(ru _ _ U.drew (vC.later (Below.refl _ _).drew) AU).mono ?_
  rintro z U2 ⟨rfl,hbk⟩
  dsimp only
  have hbb:Below U.heap.size U U2:=(Below.refl _ U).drew.trans hbk
  refine hK _ _ (dw (But.of_below hbb)) ?_
  clear hK K
  repeat (first|(refine TI.ax (by rfl) ?_)|(refine TI.aI (by rfl) (by rfl) (fun K hK=>?_);go_big_quiet_op;refine hK _ ?_;clear hK K))
  refine TI.aK (by rfl) (by rfl) (by rfl) (fun K hK=>?_)
  go_wp2_with fail
  refine(ru _ _ U2 (L8.later hbb) (hno _ rfl)).mono ?_
  rintro z U2' ⟨rfl,hbk'⟩
  dsimp only
  have L9:=ag hbb hbk'
  refine hK _ _ (dw (But.of_below L9)) ?_
  clear hK K
  obtain⟨U3,hrun,yL,iW,Vg⟩:=AA (P:=Tryz.prog) (k:=textOf q) (v:=.string (textOf d.name)) Tryz.underlying84 Tryz.underlying9 (rC.at (L9.block n rC.lt))
  have yM:But (one n) U U3:=(But.of_below L9).trans ⟨iW.os,iW.tape,iW.output,iW.size,iW.block⟩
  refine TI.aK (by rfl) (by rfl) (by rfl) (fun K hK=>?_)
  go_wp2_with fail
  refine hK _ _ (dw yM) ?_
  clear hK K
  refine TI.bV ?_
  gi_wp2
  refine⟨yM.mono fun _ h=>.inl h,mf.trans yM,?_,by omega⟩
  rw[←hX,take_snoc hqm,aih]
  exact yL
 ·rintro c1 Wc ⟨hbu,hm,hc0⟩ hD
  rw[List.take_of_length_le (by simp),hX]at hm
  have hbn:b≠n:=fM h3.box h3.nm
  gi_wp2
  refine⟨by simp,.inl ⟨_,_,rfl,run_takeDeferred hD,?_⟩⟩
  have hfin:But (one w3.heap.size) Wc (Wc.putObj w3.heap.size (.deferred none)):=But.putObj _
  have hbs:=hbu.size
  have tZ:=(Array.getElem?_eq_some_iff.1 h3.box).1
  have ail:=h3.em.lt
  have apY:=h3.nm.lt
  have aim:=h3.pm.lt
  have hall:But (aZ b n e p) w Wc:=Aj.trans (hbu.mono fun k hk=>.inr (.inl hk))
  refine⟨.tuple #[],by simp[results,Tryz.f66,go_sem],rfl,hall.past hfin (fun j hj=>by have:j=_:=hj;omega),?_,?_,?_,?_,h.ne⟩
  ·exact(hfin.block b (by omega) (bu (by omega))).trans ((hbu.block b tZ (bu hbn)).trans h3.box)
  ·exact hm.at (hfin.block n hm.lt (bu (by omega)))
  ·exact h3.em.at ((hfin.block e (by omega) (bu (by omega))).trans (hbu.block e ail (bu (fun e'=>h.ne.1 e'.symm))))
  ·exact h3.pm.at ((hfin.block p (by omega) (bu (by omega))).trans (hbu.block p aim (bu (fun e'=>h.ne.2.1 e'.symm))))
 ·intro c c1 k Wc hf
  exact hf.elim
end Go.Proofs.YtfieenjdcpjmgaaGreatDoor
namespace Go.WW
open Go.RowKit
theorem ain{P:Program}{ops:Array Oper}{S:World→Prop}{st:Oper→Bool}{Q:Act→World→Prop}{o:Oper}{rest:List Oper}{a:Act}{w:World}(hw:Region.wanted o (yielded ops a.tmps)=false)(hs:a.put o.dst undef=a)(h:aH P ops st S Q rest a w):aH P ops st S Q (o::rest) a w:=
 ax hw (by rw[hs];exact h)
theorem vF{P:Program}{id:Nat}{Q':Exit→Act→World→Prop}{a:Act}{W w:World}{l:List Oper}(x c:Nat)(idx:List Nat)(hW:Below W.heap.size W w)(hm:P.follows .mixedOrders=true)(hB:Dn fQ l.toArray x c=true)(hi:mv x c (List.range l.toArray.size)=idx)
  (h:∀w1,Below W.heap.size W w1→aH P l.toArray fQ (since W) (fun a' w'=>Q' .normal a' w') l a w1)
  (h2:∀w1,Below W.heap.size W w1→aH P l.toArray fQ (since W) (fun a' w'=>Q' .normal a' w') (pick l idx) a w1):(Code.region id l.toArray true).wp P Q' a w:=
 UH (since W) fQ x c idx hm hB hi ⟨⟨w.drew,hW.drew⟩,rfl⟩ (h _ hW.drew) (h2 _ hW.drew)
def dU(L:List (ByteArray×ByteArray)):List (ByteArray×Value):=L.map fun x=>(x.1,Value.string x.2)
def GX(L:List (ByteArray×ByteArray))(d:Entry):Prop:=∃q∈d.name::d.aliases,∃o,(textOf q,o)∈L∧o≠textOf d.name
def ug(L:List (ByteArray×ByteArray))(k:ByteArray)(ps:List az):Prop:=∀q∈ps,∀o,(textOf q,o)∈L→o=k
theorem Vl{L:List (ByteArray×ByteArray)}{k:ByteArray}{ps:List az}{q:az}(h:ug L k ps)(hq:∀o,(textOf q,o)∈L→o=k):ug L k (ps++[q]):=by
 intro x hx
 rcases List.mem_append.1 hx with hx|hx
 ·exact h x hx
 ·obtain rfl:x=q:=by simpa using hx
  exact hq
theorem aio{L:List (ByteArray×ByteArray)}{k:ByteArray}(h:∀o,(k,o)∉L):k∉(dU L).map (·.1):=by
 intro hk
 simp only[dU,List.map_map,List.mem_map,Function.comp]at hk
 obtain⟨⟨a,o⟩,hx,rfl⟩:=hk
 exact h o hx
end Go.WW
namespace Go.Proofs.YtfieenjdcpjmgaaGreatDoor
open Go.RowKit Go.WW
def uh(w:World)(b:Nat)(r:aN)(d:Entry):World:=((w.alloc (.cells #[.pointer (some ⟨b,0,none⟩)] 25)).alloc (.cells (ae r d) 47)).alloc (.cells #[.int .i64 0] 26)
theorem GY(w:World)(b:Nat)(r:aN)(d:Entry):Below w.heap.size w (uh w b r d)∧(uh w b r d).heap[w.heap.size]?=some (.cells #[.pointer (some ⟨b,0,none⟩)] 25)∧(uh w b r d).heap[w.heap.size+1]?=some (.cells (ae r d) 47)∧(uh w b r d).heap[w.heap.size+1+1]?=some (.cells #[.int .i64 0] 26)∧(uh w b r d).heap.size=w.heap.size+1+1+1:=by
 unfold uh
 refine⟨aj (aj ((Below.refl _ _).alloc (Nat.le_refl _) _) _) _,?_,?_,?_,by simp⟩
 ·rw[Below.heap_alloc _ _ _ (by simp;omega)];exact jq _ _ _
 ·rw[Below.heap_alloc _ _ _ (by simp)]
  have:=World.alloc_heap_new (w.alloc (.cells #[.pointer (some ⟨b,0,none⟩)] 25)) (.cells (ae r d) 47)
  rwa[World.size_alloc]at this
 ·have:=World.alloc_heap_new ((w.alloc (.cells #[.pointer (some ⟨b,0,none⟩)] 25)).alloc (.cells (ae r d) 47)) (.cells #[.int .i64 0] 26)
  simpa using this
theorem aip{w:World}{n:Nat}{L:List (ByteArray×ByteArray)}(h:MapOf w n (dU L)){k o:ByteArray}(hx:(k,o)∈L):(Instr.lookup 84 (.map (some n)) (.string k) true).run Tryz.prog w=.ok (.tuple #[.string o,.bool true]) w:=by
 have:=Gq (P:=Tryz.prog) true Tryz.underlying84 Tryz.underlying9 h (List.mem_map.2 ⟨(k,o),hx,rfl⟩)
 exact this
theorem aiq{w:World}{n:Nat}{L:List (ByteArray×ByteArray)}(h:MapOf w n (dU L)){k:ByteArray}(hx:∀o,(k,o)∉L):(Instr.lookup 84 (.map (some n)) (.string k) true).run Tryz.prog w=.ok (.tuple #[.string ⟨#[]⟩,.bool false]) w:=by
 have:=Gs (P:=Tryz.prog) (z:=.string ⟨#[]⟩) true Tryz.underlying84 Tryz.underlying9 h (by kernel_rfl) (aio hx)
 simpa using this
theorem air(E:List EE)(k:ByteArray):∃(r0:aN) (d0:Entry) (ok:Bool),∀(w:World) (e:Nat),MapOf w e (E.map fun x=>(textOf x.2.name,Value.agg (cu x)))→(Instr.lookup 85 (.map (some e)) (.string k) true).run Tryz.prog w=.ok (.tuple #[.agg (ae r0 d0),.bool ok]) w:=by
 by_cases h:∃x∈E,textOf x.2.name=k
 ·obtain⟨x,hx,rfl⟩:=h
  exact⟨x.1,x.2,true,fun w e hm=>AQ hm x hx⟩
 ·exact⟨aW,aQ,false,fun w e hm=>AX hm k (fun x hx e'=>h ⟨x,hx,e'⟩)⟩
theorem ais(P:List ai)(k:ByteArray):∃(q0:ai) (ok:Bool),(∀(w:World) (p:Nat),MapOf w p (P.map fun q=>(q.name,Value.agg (aC q)))→(Instr.lookup 86 (.map (some p)) (.string k) true).run Tryz.prog w=.ok (.tuple #[.agg (aC q0),.bool ok]) w)∧ok=P.any (fun x=>decide (x.name=k)):=by
 cases h:P.any (fun x=>decide (x.name=k))with
 |true=>
  obtain⟨q,hq,e⟩:=List.any_eq_true.1 h
  have e':q.name=k:=by simpa using e
  subst e'
  exact⟨q,true,fun w p hm=>Dp hm q hq,rfl⟩
 |false=>exact⟨jX,false,fun w p hm=>Dq hm k h,rfl⟩
attribute [local irreducible] aH
theorem Vm(b n e p:Nat)(re:ByteArray)(s:Int)(N:List (ByteArray×Value))(E:List EE)(P:List ai)(r:aN)(d:Entry)(w:World)(h:bU w b n e p re s N E P)(hre:¬re=⟨#[]⟩)(he:bK w r d)(hv:bW d=false) :
  Calls Tryz.prog 23 #[.pointer (some ⟨b,0,none⟩),.agg (ae r d)] w fun q w'=>q=.returned (.int .i64 2)∧Below w.heap.size w w':=by
 obtain⟨hB,ht,jm,hr4,hsz⟩:=GY w b r d
 go_enter Tryz.func23,Tryz.ntmps23
 go_wp2_with fail
 have he':=he.later hB
 have h':=h.later hB
 unfold uh at hB ht jm hr4 hsz he' h'
 generalize ((w.alloc (.cells #[.pointer (some ⟨b,0,none⟩)] 25)).alloc (.cells (ae r d) 47)).alloc (.cells #[.int .i64 0] 26)=W at *
 obtain⟨c0,c1,c2,c3,c4,f1,hl⟩:=dO h'.box
 refine(jo _ _ _ c0 hre).mono ?_
 rintro x w' ⟨rfl,rfl⟩
 dsimp only
 have mV:row? W (w.heap.size+1) 0 17=some (ae r d):=by rw[bQ jm];exact df (by simp[go_sem])
 have kQ:=(aB jm).1
 have hct:W.cell? ⟨w.heap.size,0,none⟩=some (.pointer (some ⟨b,0,none⟩)):=(aB ht).1 0
 have hc4:W.cell? ⟨w.heap.size+1+1,0,none⟩=some (.int .i64 0):=(aB hr4).1 0
 have hf4:=(aB hr4).2.1
 have l0:w.heap.size<W.heap.size:=by omega
 have l1:w.heap.size+1<W.heap.size:=by omega
 have l2:w.heap.size+1+1<W.heap.size:=by omega
 clear hsz
 go_wp2_with fail
 refine wW (Below.refl _ W) (by kernel_rfl) (by kernel_rfl) ?_
 intro w1 hb1
 repeat (first|(refine ax (by rfl) ?_)|(refine aP (by rfl) (by rfl) (fun K hK=>?_);go_big_quiet_op;refine hK _ ?_;clear hK K))
 refine aU (by rfl) (by rfl) (fun K hK=>?_)
 go_wp2_with fail
 refine(CW r d w1 (he'.later hb1)).mono ?_
 rintro q w2 ⟨rfl,hb2⟩
 rw[hv]
 dsimp only
 have hb2':=ag hb1 hb2
 refine hK _ _ (aA hb2') ?_
 clear hK K
 iterate 2 (refine aP (by kernel_rfl) (by kernel_rfl) (fun K hK=>?_);go_big_quiet_op;refine hK _ ?_;clear hK K)
 iterate 9 (refine ain (by kernel_rfl) (by kernel_rfl) ?_)
 iterate 1 (refine aP (by kernel_rfl) (by kernel_rfl) (fun K hK=>?_);go_big_quiet_op;refine hK _ ?_;clear hK K)
 refine bV ?_
 have Vo:w2.cell? ⟨w.heap.size,0,none⟩=some (.pointer (some ⟨b,0,none⟩)):=(hb2'.cell l0).trans hct
 have Vp:w2.cell? ⟨w.heap.size+1+1,0,none⟩=some (.int .i64 0):=(hb2'.cell l2).trans hc4
 have Vq:w2.frozen? ⟨w.heap.size+1+1,0,none⟩=false:=(hb2'.frozen l2).trans (hf4 0)
 have xq:w2.heap[w.heap.size+1+1]?=some (.cells #[.int .i64 0] 26):=(hb2'.block _ l2).trans hr4
 have Vr:w.heap.size+1+1<w2.heap.size:=(Array.getElem?_eq_some_iff.1 xq).1
 go_wp2_with fail
 have hset:=dI (o:=0) (.int .i64 2) xq
 have hfc:(w2.setCell ⟨w.heap.size+1+1,0,none⟩ (.int .i64 2)).cell? ⟨w.heap.size+1+1,0,none⟩=some (.int .i64 2):=(aB hset).1 0
 refine bodyPost_ret (v:=.int .i64 2) (by simp[results,Tryz.results23,go_sem,hfc]) rfl ?_
 exact⟨rfl,(ag hB hb2').setCell (show w.heap.size≤w.heap.size+1+1 by omega) _⟩
theorem ait(b n e p:Nat)(re:ByteArray)(s:Int)(N:List (ByteArray×Value))(E:List EE)(P:List ai)(r:aN)(d:Entry)(w:World)(h:bU w b n e p re s N E P)(hre:¬re=⟨#[]⟩)(he:bK w r d)(hv:bW d=true)(hrl:¬d.name.aG=re) :
  Calls Tryz.prog 23 #[.pointer (some ⟨b,0,none⟩),.agg (ae r d)] w fun q w'=>q=.returned (.int .i64 2)∧Below w.heap.size w w':=by
 have Vs:=lu _ _ hrl
 obtain⟨hB,ht,jm,hr4,hsz⟩:=GY w b r d
 go_enter Tryz.func23,Tryz.ntmps23
 go_wp2_with fail
 have he':=he.later hB
 have h':=h.later hB
 unfold uh at hB ht jm hr4 hsz he' h'
 generalize ((w.alloc (.cells #[.pointer (some ⟨b,0,none⟩)] 25)).alloc (.cells (ae r d) 47)).alloc (.cells #[.int .i64 0] 26)=W at *
 obtain⟨c0,c1,c2,c3,c4,f1,hl⟩:=dO h'.box
 refine(jo _ _ _ c0 hre).mono ?_
 rintro x w' ⟨rfl,rfl⟩
 dsimp only
 have mV:row? W (w.heap.size+1) 0 17=some (ae r d):=by rw[bQ jm];exact df (by simp[go_sem])
 have kQ:=(aB jm).1
 have hct:W.cell? ⟨w.heap.size,0,none⟩=some (.pointer (some ⟨b,0,none⟩)):=(aB ht).1 0
 have hc4:W.cell? ⟨w.heap.size+1+1,0,none⟩=some (.int .i64 0):=(aB hr4).1 0
 have hf4:=(aB hr4).2.1
 have l0:w.heap.size<W.heap.size:=by omega
 have l1:w.heap.size+1<W.heap.size:=by omega
 have l2:w.heap.size+1+1<W.heap.size:=by omega
 clear hsz
 go_wp2_with fail
 refine wW (Below.refl _ W) (by kernel_rfl) (by kernel_rfl) ?_
 intro w1 hb1
 repeat (first|(refine ax (by rfl) ?_)|(refine aP (by rfl) (by rfl) (fun K hK=>?_);go_big_quiet_op;refine hK _ ?_;clear hK K))
 refine aU (by rfl) (by rfl) (fun K hK=>?_)
 go_wp2_with fail
 refine(CW r d w1 (he'.later hb1)).mono ?_
 rintro q w2 ⟨rfl,hb2⟩
 rw[hv]
 dsimp only
 have hb2':=ag hb1 hb2
 refine hK _ _ (aA hb2') ?_
 clear hK K
 iterate 12 (refine aP (by kernel_rfl) (by kernel_rfl) (fun K hK=>?_);go_big_quiet_op;refine hK _ ?_;clear hK K)
 refine bV ?_
 have Vo:w2.cell? ⟨w.heap.size,0,none⟩=some (.pointer (some ⟨b,0,none⟩)):=(hb2'.cell l0).trans hct
 have Vp:w2.cell? ⟨w.heap.size+1+1,0,none⟩=some (.int .i64 0):=(hb2'.cell l2).trans hc4
 have Vq:w2.frozen? ⟨w.heap.size+1+1,0,none⟩=false:=(hb2'.frozen l2).trans (hf4 0)
 have xq:w2.heap[w.heap.size+1+1]?=some (.cells #[.int .i64 0] 26):=(hb2'.block _ l2).trans hr4
 have Vr:w.heap.size+1+1<w2.heap.size:=(Array.getElem?_eq_some_iff.1 xq).1
 go_wp2_with fail
 have hset:=dI (o:=0) (.int .i64 2) xq
 have hfc:(w2.setCell ⟨w.heap.size+1+1,0,none⟩ (.int .i64 2)).cell? ⟨w.heap.size+1+1,0,none⟩=some (.int .i64 2):=(aB hset).1 0
 refine bodyPost_ret (v:=.int .i64 2) (by simp[results,Tryz.results23,go_sem,hfc]) rfl ?_
 exact⟨rfl,(ag hB hb2').setCell (show w.heap.size≤w.heap.size+1+1 by omega) _⟩
theorem aiu(b n e p:Nat)(re:ByteArray)(s:Int)(N:List (ByteArray×Value))(E:List EE)(P:List ai)(r:aN)(d:Entry)(w:World)(h:bU w b n e p re s N E P)(hre:¬re=⟨#[]⟩)(he:bK w r d)(hv:bW d=true)(hrl:d.name.aG=re)(hpe:¬d.aO=⟨#[]⟩)(hP:P.any (fun x=>decide (x.name=d.aO))=false) :
  Calls Tryz.prog 23 #[.pointer (some ⟨b,0,none⟩),.agg (ae r d)] w fun q w'=>q=.returned (.int .i64 9)∧Below w.heap.size w w':=by
 have Vs:=str_eq _ _ hrl
 have hp0:=lu _ _ hpe
 have hp1:¬d.aO.toList=[]:=fun h=>hpe (toList_inj (b:=⟨#[]⟩) (by rw[h,ByteArray.toList_eq]))
 have hp2:d.aO.toList.isEmpty=false:=by cases h:d.aO.toList<;>simp_all
 obtain⟨hB,ht,jm,hr4,hsz⟩:=GY w b r d
 go_enter Tryz.func23,Tryz.ntmps23
 go_wp2_with fail
 have he':=he.later hB
 have h':=h.later hB
 unfold uh at hB ht jm hr4 hsz he' h'
 generalize ((w.alloc (.cells #[.pointer (some ⟨b,0,none⟩)] 25)).alloc (.cells (ae r d) 47)).alloc (.cells #[.int .i64 0] 26)=W at *
 obtain⟨c0,c1,c2,c3,c4,f1,hl⟩:=dO h'.box
 refine(jo _ _ _ c0 hre).mono ?_
 rintro x w' ⟨rfl,rfl⟩
 dsimp only
 have mV:row? W (w.heap.size+1) 0 17=some (ae r d):=by rw[bQ jm];exact df (by simp[go_sem])
 have kQ:=(aB jm).1
 have hct:W.cell? ⟨w.heap.size,0,none⟩=some (.pointer (some ⟨b,0,none⟩)):=(aB ht).1 0
 have hc4:W.cell? ⟨w.heap.size+1+1,0,none⟩=some (.int .i64 0):=(aB hr4).1 0
 have hf4:=(aB hr4).2.1
 have l0:w.heap.size<W.heap.size:=by omega
 have l1:w.heap.size+1<W.heap.size:=by omega
 have l2:w.heap.size+1+1<W.heap.size:=by omega
 clear hsz
 go_wp2_with fail
 refine wW (Below.refl _ W) (by kernel_rfl) (by kernel_rfl) ?_
 intro w1 hb1
 repeat (first|(refine ax (by rfl) ?_)|(refine aP (by rfl) (by rfl) (fun K hK=>?_);go_big_quiet_op;refine hK _ ?_;clear hK K))
 refine aU (by rfl) (by rfl) (fun K hK=>?_)
 go_wp2_with fail
 refine(CW r d w1 (he'.later hb1)).mono ?_
 rintro q w2 ⟨rfl,hb2⟩
 rw[hv]
 dsimp only
 have hb2':=ag hb1 hb2
 refine hK _ _ (aA hb2') ?_
 clear hK K
 iterate 12 (refine aP (by kernel_rfl) (by kernel_rfl) (fun K hK=>?_);go_big_quiet_op;refine hK _ ?_;clear hK K)
 refine bV ?_
 have h2:=h'.later hb2'
 have hlk:∀x:Later w2,(Instr.lookup 86 (.map (some p)) (.string d.aO) true).run Tryz.prog x.w=.ok (.tuple #[.agg (aC jX),.bool false]) x.w:=fun x=>Dq (h2.pm.at (x.b.block p h2.pm.lt)) _ hP
 have ht2:=aJ hb2' ht
 have he2:=aJ hb2' jm
 have hr2:=aJ hb2' hr4
 clear c0 c1 c2 c3 c4 f1 hl mV kQ hct hc4 hf4
 obtain⟨c0,c1,c2,c3,c4,f1,hl⟩:=dO h2.box
 have kQ:=(aB he2).1
 have hct:w2.cell? ⟨w.heap.size,0,none⟩=some (.pointer (some ⟨b,0,none⟩)):=(aB ht2).1 0
 have m0:w.heap.size<w2.heap.size:=(Array.getElem?_eq_some_iff.1 ht2).1
 have m1:w.heap.size+1<w2.heap.size:=(Array.getElem?_eq_some_iff.1 he2).1
 go_wp2_with fail
 refine wW (Below.refl _ w2) (by kernel_rfl) (by kernel_rfl) ?_
 intro w3 hb3
 iterate 11 (refine aP (by kernel_rfl) (by kernel_rfl) (fun K hK=>?_);go_big_quiet_op;refine hK _ ?_;clear hK K)
 refine aU (by rfl) (by rfl) (fun K hK=>?_)
 go_wp2_with fail
 refine hK _ _ (aA (aj hb3 _)) ?_
 clear hK K
 refine aU (by rfl) (by rfl) (fun K hK=>?_)
 go_wp2_with fail
 refine hK _ _ (aA (aj hb3 (.cells (aC jX) 50))) ?_
 clear hK K
 iterate 1 (refine aP (by kernel_rfl) (by kernel_rfl) (fun K hK=>?_);go_big_quiet_op;refine hK _ ?_;clear hK K)
 refine bV ?_
 have hb4:=aj hb3 (.cells (aC jX) 50)
 clear hb3 hlk
 generalize (w3.alloc (.cells (aC jX) 50))=V at *
 have jZ:=ag hb2' hb4
 have apZ:V.cell? ⟨w.heap.size+1,6,none⟩=some (.string d.aO):=(aB (aJ jZ jm)).1 6
 have m1V:w.heap.size+1<V.heap.size:=by have:=hb4.size;omega
 have hc4:W.cell? ⟨w.heap.size+1+1,0,none⟩=some (.int .i64 0):=(aB hr4).1 0
 have hf4:=(aB hr4).2.1
 have hct:=(aB ht).1 0
 have Vo:V.cell? ⟨w.heap.size,0,none⟩=some (.pointer (some ⟨b,0,none⟩)):=(jZ.cell l0).trans hct
 have Vp:V.cell? ⟨w.heap.size+1+1,0,none⟩=some (.int .i64 0):=(jZ.cell l2).trans hc4
 have Vq:V.frozen? ⟨w.heap.size+1+1,0,none⟩=false:=(jZ.frozen l2).trans (hf4 0)
 have xq:V.heap[w.heap.size+1+1]?=some (.cells #[.int .i64 0] 26):=(jZ.block _ l2).trans hr4
 have Vr:w.heap.size+1+1<V.heap.size:=(Array.getElem?_eq_some_iff.1 xq).1
 go_wp2_with fail
 have hset:=dI (o:=0) (.int .i64 9) xq
 have hfc:(V.setCell ⟨w.heap.size+1+1,0,none⟩ (.int .i64 9)).cell? ⟨w.heap.size+1+1,0,none⟩=some (.int .i64 9):=(aB hset).1 0
 refine bodyPost_ret (v:=.int .i64 9) (by simp[results,Tryz.results23,go_sem,hfc]) rfl ?_
 exact⟨rfl,(ag hB jZ).setCell (show w.heap.size≤w.heap.size+1+1 by omega) _⟩
end Go.Proofs.YtfieenjdcpjmgaaGreatDoor
