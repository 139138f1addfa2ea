/- A part of the proof. -/
import Derived.Test.YtaghcadlgbnbdaaGreatDoorA06
import Derived.Test.YtaghcadlgbnbdaaGreatDoorA05
import Derived.Test.YtaghcadlgbnbdaaGreatDoorA02
import Derived.Test.YtaghcadlgbnbdaaGreatDoorA04
set_option maxRecDepth 100000
set_option maxHeartbeats 8000000
namespace Go.WW
open Go.RowKit
def rO(N:List (ByteArray×Value))(ps:List aB):List (ByteArray×Value):=ps.foldl (fun m p=>ku m (textOf p)) N
theorem aic(N:List (ByteArray×Value))(ps:List aB)(p:aB):rO N (ps++[p])=ku (rO N ps) (textOf p):=by simp[rO]
theorem take_snoc{α:Type}{l:List α}{k:Nat}{x:α}(h:l[k]?=some x):l.take (k+1)=l.take k++[x]:=by rw[List.take_add_one,h];rfl
def qm(E:List EE)(k:ByteArray):List EE:=E.filter fun y=>decide (textOf y.2.name≠k)
theorem aid(E:List EE)(k:ByteArray):ku (E.map fun x=>(textOf x.2.name,Value.agg (bC x))) k=(qm E k).map fun x=>(textOf x.2.name,Value.agg (bC x)):=by
 unfold ku qm
 rw[List.filter_map]
 rfl
theorem But.past{S T:Nat→Prop}{w a b:World}(h:But S w a)(k:But T a b)(hT:∀j,T j→w.heap.size≤j):But S w b:=
 ⟨k.os.trans h.os,k.tape.trans h.tape,k.output.trans h.output,Nat.le_trans h.size k.size,fun j hj hn=>(k.block j (Nat.lt_of_lt_of_le hj h.size) (fun t=>by have:=hT j t;omega)).trans (h.block j hj hn)⟩
end Go.WW
namespace Go.Proofs.YtaghcadlgbnbdaaGreatDoor
open Go.RowKit Go.WW
theorem IQ{w:World}{e:Nat}{E:List EE}(h:MapOf w e (E.map fun x=>(textOf x.2.name,Value.agg (bC x))))(x:EE)(hx:x∈E):(Instr.lookup 86 (.map (some e)) (.string (textOf x.2.name)) true).run Tryz.prog w=.ok (.tuple #[.agg (ae x.1 x.2),.bool true]) w:=by
 have:=MF (P:=Tryz.prog) true Tryz.underlying86 Tryz.underlying9 h (List.mem_map.2 ⟨x,hx,rfl⟩)
 exact this
attribute [local go_sem] Oper.semAt_some
theorem aie(b n e p:Nat)(re:ByteArray)(s:Int)(N:List (ByteArray×Value))(E:List EE)(P:List ah)(x:EE)(w:World)(h:bT w b n e p re s N E P)(hx:x∈E)(he:bz w x.1 x.2)(hok:∀q∈x.2.name::x.2.aliases,bD q=true) :
  Calls Tryz.prog 59 #[.pointer (some ⟨b,0,none⟩),.string (textOf x.2.name)] w fun r w'=>r=.returned (.tuple #[])∧But (aX b n e p) w w'∧bT w' b n e p re s (rO N (x.2.name::x.2.aliases)) (qm E (textOf x.2.name)) P:=by
 have hB:Below w.heap.size w (w.alloc (.cells #[.pointer (some ⟨b,0,none⟩)] 131)):=(Below.refl _ _).alloc (Nat.le_refl _) _
 have h':=h.later hB
 have hx3:(w.alloc (.cells #[.pointer (some ⟨b,0,none⟩)] 131)).heap[w.heap.size]?=some (.cells #[.pointer (some ⟨b,0,none⟩)] 131):=World.alloc_heap_new _ _
 refine(callsIn_wide (n:=0)).1 ?_
 refine callsIn_of_wp_marks Tryz.func59 rfl trivial ?_ rfl
 simp only[Tryz.ntmps59,List.size_toArray,List.length_cons,List.length_nil,Nat.reduceAdd,Nat.reduceSub,Array.replicate_succ,Array.replicate_zero,List.push_toArray,List.append_toArray,List.nil_append,List.cons_append]
 have hlk:=IQ h'.em x hx
 obtain⟨c0,c1,c2,c3,c4,f1,hl⟩:=fH h'.box
 have hWs:(w.alloc (.cells #[.pointer (some ⟨b,0,none⟩)] 131)).heap.size=w.heap.size+1:=by simp
 have hct:(w.alloc (.cells #[.pointer (some ⟨b,0,none⟩)] 131)).cell? ⟨w.heap.size,0,none⟩=some (.pointer (some ⟨b,0,none⟩)):=(ai hx3).1 0
 gi_wp2
 have hB2:Below w.heap.size w ((w.alloc (.cells #[.pointer (some ⟨b,0,none⟩)] 131)).alloc (.cells (ae x.1 x.2) 32)):=aC hB _
 have ht2:((w.alloc (.cells #[.pointer (some ⟨b,0,none⟩)] 131)).alloc (.cells (ae x.1 x.2) 32)).heap[w.heap.size]?=some (.cells #[.pointer (some ⟨b,0,none⟩)] 131):=(Below.heap_alloc _ _ _ (by simp)).trans hx3
 have hs2:w.heap.size<((w.alloc (.cells #[.pointer (some ⟨b,0,none⟩)] 131)).alloc (.cells (ae x.1 x.2) 32)).heap.size:=by simp;omega
 clear hB h' hx3 hlk c0 c1 c2 c3 c4 f1 hl hWs hct
 generalize (w.alloc (.cells #[.pointer (some ⟨b,0,none⟩)] 131)).alloc (.cells (ae x.1 x.2) 32)=W2 at *
 refine⟨trivial,rfl,(callsIn_wide.2 (NR _ _ _ (he.later hB2))).mono ?_⟩
 rintro r w3 ⟨bN,sN,X,rfl,hb3,hbN,Ez,hX,hd⟩
 have hB3:=ag hB2 hb3
 have h3:=h.later hB3
 have ht3:=aA hb3 ht2
 have hs3:=hb3.size
 have hnl:=h.nm.lt
 have hws:=hB3.size
 dsimp only
 gi_wp2
 refine(wpIn_wide (n:=0)).2 ?_
 refine vg (gf:=109) (lb:=#[.pointer (some ⟨bN,0,none⟩)]) (by simp[go_sem]) (enters_of Tryz.func109 (by kernel_rfl) rfl) (S:=one n) ?_ (xs:=X) (V:=VN) ?_ (NT bN sN X (one n) w3 Ez ?_ ?_)
  (fun c1 k Wc=>But (one n) w3 Wc∧MapOf Wc n (rO N ((X.map (·.2)).take k))∧w3.heap.size<c1) (fun _ _ _ _=>False) ?_ ?_ ?_ ?_ ?_ ?_
 ·rintro k (rfl:k=n);omega
 ·rintro c1 xx v W0 Wc ⟨s',rfl,_⟩;rfl
 ·rintro k (rfl:k=n);omega
 ·intro y hy
  exact hd y fun k hk=>hy.block k hk.2 fun hk'=>by
   rcases hk' with(e:k=n)|e
   ·have:=hk.1;have:=hB2.size;omega
   ·have:=hk.2;omega
 ·intro c1 Wc h1 h2 hb
  exact⟨But.of_below hb,h3.nm.at (hb.block n h3.nm.lt),h1⟩
 ·rintro c1 k Wc lh ⟨h1,h2,h4⟩ hb
  refine⟨h1.past hb (fun j hj=>hj.1),h2.at (hb.block n h2.lt fun hj=>?_),h4⟩
  have:=hj.1
  have:=h3.nm.lt
  omega
 ·rintro c c1 k Wc lh hf
  exact hf.elim
 ·rintro c1 k xx v W0 Wc hxx ⟨s',rfl,hp⟩ ⟨iD,hm0,hc0⟩ hbs hc1 mZ
  have hsW:=hbs.size
  have hc2:c1≤Wc.heap.size:=Nat.le_trans mZ hsW
  have hbu:But (one n) w3 Wc:=iD.past hbs (fun j hj=>hj.1)
  have hm:=hm0.at (hbs.block n hm0.lt (fun hj=>by have:=hj.1;have:=h3.nm.lt;omega))
  clear iD hm0 hbs
  obtain⟨s0,q⟩:=xx
  have hqm:(X.map (·.2))[k]?=some q:=by rw[List.getElem?_map,hxx];rfl
  have Bl:bD q=true:=hok q (by rw[←hX];exact List.mem_of_getElem? hqm)
  have HP:=Lib.hid hp
  clear hp
  dsimp only
  gi_wp2
  have hal:Below Wc.heap.size Wc (Wc.alloc (.cells (ak s' q) 25)):=(Below.refl _ _).alloc (Nat.le_refl _) _
  refine⟨hal,fun U hU=>?_⟩
  have lU:U.heap[Wc.heap.size]?=some (.cells (ak s' q) 25):=(hU.block _ (by simp) (aT (by omega))).trans (World.alloc_heap_new _ _)
  have qi:Wc.heap.size<U.heap.size:=(Array.getElem?_eq_some_iff.1 lU).1
  have dU:But (one n) w3 U:=(hbu.trans (But.of_below hal)).past hU (fun j hj=>by have:j=_:=hj;omega)
  have rJ:MapOf U n (rO N ((X.map (·.2)).take k)):=hm.at ((hU.block n (by have:=hm.lt;simp;omega) (aT (by have:=h3.nm.lt;omega))).trans (hal.block n hm.lt))
  have qh:bg U s' q:=HP.out U fun j hj=>(hU.block j (by have:=hj.2;simp;omega) (aT (by have:=hj.1;omega))).trans (hal.block j hj.2)
  have hbn:b≠n:=gu h3.box h3.nm
  have htn:w.heap.size≠n:=by omega
  have jC:U.heap[b]?=some (.cells (kJ re s n e p) 91):=(dU.block b (Array.getElem?_eq_some_iff.1 h3.box).1 (aT hbn)).trans h3.box
  have zh:U.heap[w.heap.size]?=some (.cells #[.pointer (some ⟨b,0,none⟩)] 131):=(dU.block _ (Array.getElem?_eq_some_iff.1 ht3).1 (aT htn)).trans ht3
  clear hal hU hbu HP hm hsW
  obtain⟨c0,c1',c2,c3,c4,f1,hl⟩:=fH jC
  have hct:U.cell? ⟨w.heap.size,0,none⟩=some (.pointer (some ⟨b,0,none⟩)):=(ai zh).1 0
  have hlt:w.heap.size<U.heap.size:=(Array.getElem?_eq_some_iff.1 zh).1
  have jB:row? U Wc.heap.size 0 2=some (ak s' q):=by rw[bV lU];exact dH (by simp[go_sem])
  have n1:=aT hbn
  have n2:=aT htn
  have n3:¬one n Wc.heap.size:=aT (by have:=h3.nm.lt;omega)
  gi_wp2
  refine TI.xm (one n) (But.refl _ U) (by kernel_rfl) (by kernel_rfl) (by kernel_rfl) ?_
  repeat (first|(refine TI.aP (by rfl) ?_)|(refine TI.gI (by rfl) (by rfl) (fun K hK=>?_);go_big_quiet_op;refine hK _ ?_;clear hK K))
  refine TI.jg (by rfl) (by rfl) (by rfl) (fun K hK=>?_)
  go_wp2_with fail
  refine(rH _ _ U.drew (qh.later (Below.refl _ _).drew) Bl).mono ?_
  rintro r U2 ⟨rfl,hbk⟩
  dsimp only
  have hbb:Below U.heap.size U U2:=(Below.refl _ U).drew.trans hbk
  refine hK _ _ (bI (But.of_below hbb)) ?_
  clear hK K
  obtain⟨U3,hrun,zi,fF,Xd⟩:=MI (P:=Tryz.prog) (k:=textOf q) (ty:=0) (tY:=#[85,9]) rfl Tryz.underlying85 Tryz.underlying9 (rJ.at (hbb.block n rJ.lt))
  have zk:But (one n) U U3:=(But.of_below hbb).trans ⟨fF.os,fF.tape,fF.output,fF.size,fF.block⟩
  refine TI.jg (by rfl) (by rfl) (by rfl) (fun K hK=>?_)
  go_wp2_with fail
  refine hK _ _ (bI zk) ?_
  clear hK K
  refine TI.bW ?_
  gi_wp2
  refine⟨zk.mono fun _ h=>.inl h,dU.trans zk,?_,by omega⟩
  rw[←hX,take_snoc hqm,aic]
  exact zi
 ·rintro c1 Wc ⟨hbu,hm,hc0⟩ hD
  rw[List.take_of_length_le (by simp),hX]at hm
  have hbn:b≠n:=gu h3.box h3.nm
  have htn:w.heap.size≠n:=by omega
  have hen:e≠n:=fun e'=>h.ne.1 e'.symm
  have jC:Wc.heap[b]?=some (.cells (kJ re s n e p) 91):=(hbu.block b (Array.getElem?_eq_some_iff.1 h3.box).1 (aT hbn)).trans h3.box
  have zh:Wc.heap[w.heap.size]?=some (.cells #[.pointer (some ⟨b,0,none⟩)] 131):=(hbu.block _ (Array.getElem?_eq_some_iff.1 ht3).1 (aT htn)).trans ht3
  have hme:=h3.em.at (hbu.block e h3.em.lt (aT hen))
  obtain⟨U3,hrun,zi,fF,Xd⟩:=MI (P:=Tryz.prog) (k:=textOf x.2.name) (ty:=0) (tY:=#[86,9]) rfl Tryz.underlying86 Tryz.underlying9 hme
  rw[aid]at zi
  obtain⟨k0,k1,k2,k3,k4,f1,hl⟩:=fH jC
  have hct:Wc.cell? ⟨w.heap.size,0,none⟩=some (.pointer (some ⟨b,0,none⟩)):=(ai zh).1 0
  gi_wp2
  have hD3:U3.heap[w3.heap.size]?=some (.deferred (some [])):=(fF.block _ (Array.getElem?_eq_some_iff.1 hD).1 (by have:=h3.em.lt;omega)).trans hD
  refine⟨by simp,.inl ⟨_,_,rfl,run_takeDeferred hD3,?_⟩⟩
  have hfin:But (one w3.heap.size) U3 (U3.putObj w3.heap.size (.deferred none)):=But.putObj _
  have he3:=h3.em.lt
  have hn3:=h3.nm.lt
  have hp3:=h3.pm.lt
  have hall:But (aX b n e p) w U3:=((But.of_below hB3).trans (hbu.mono fun k (hk:k=n)=>.inr (.inl hk))).trans (fF.mono fun k (hk:k=e)=>.inr (.inr (.inl hk)))
  have hbe:b≠e:=gu h3.box h3.em
  refine⟨.tuple #[],by simp[results,Tryz.f59,go_sem],rfl,hall.past hfin (fun j hj=>by have:j=_:=hj;omega),?_,?_,?_,?_,h.ne⟩
  ·exact(hfin.block b (by have:=fF.size;omega) (aT (by have:=(Array.getElem?_eq_some_iff.1 h3.box).1;omega))).trans ((fF.block b hl hbe).trans jC)
  ·exact hm.at ((hfin.block n (by have:=fF.size;have:=hm.lt;omega) (aT (by omega))).trans (fF.block n hm.lt (fun e'=>h.ne.1 e')))
  ·exact zi.at (hfin.block e zi.lt (aT (by omega)))
  ·have hpm:=h3.pm.at (hbu.block p h3.pm.lt (aT (fun e'=>h.ne.2.1 e'.symm)))
   exact hpm.at ((hfin.block p (by have:=fF.size;have:=hpm.lt;omega) (aT (by omega))).trans (fF.block p hpm.lt (fun e'=>h.ne.2.2 e'.symm)))
 ·intro c c1 k Wc hf
  exact hf.elim
end Go.Proofs.YtaghcadlgbnbdaaGreatDoor
namespace Go.WW
open Go.RowKit
def uw(N:List (ByteArray×Value))(E:List EE)(k:ByteArray)(N1:List (ByteArray×Value))(E1:List EE):Prop:=
 (∃x∈E,textOf x.2.name=k∧N1=rO N (x.2.name::x.2.aliases)∧E1=qm E k)∨((∀x∈E,textOf x.2.name≠k)∧N1=N∧E1=E)
theorem uw.no{N N1:List (ByteArray×Value)}{E E1:List EE}{k:ByteArray}(h:uw N E k N1 E1):∀y∈E1,textOf y.2.name≠k:=by
 rcases h with⟨x,hx,rfl,rfl,rfl⟩|⟨h,rfl,rfl⟩
 ·intro y hy
  simpa[qm]using(List.mem_filter.1 hy).2
 ·exact h
def rQ(N:List (ByteArray×Value))(k:ByteArray)(ps:List aB):List (ByteArray×Value):=ps.foldl (fun m p=>nS m (textOf p) (.string k)) N
theorem aif(N:List (ByteArray×Value))(k:ByteArray)(ps:List aB)(p:aB):rQ N k (ps++[p])=nS (rQ N k ps) (textOf p) (.string k):=by simp[rQ]
theorem aih(E:List EE)(x:EE)(h:∀y∈E,textOf y.2.name≠textOf x.2.name):nS (E.map fun x=>(textOf x.2.name,Value.agg (bC x))) (textOf x.2.name) (.agg (bC x))=(E++[x]).map fun x=>(textOf x.2.name,Value.agg (bC x)):=by
 have hk:hasK (E.map fun x=>(textOf x.2.name,Value.agg (bC x))) (textOf x.2.name)=false:=by
  unfold hasK
  rw[List.any_eq_false]
  intro y hy
  obtain⟨z,hz,rfl⟩:=List.mem_map.1 hy
  simpa using h z hz
 unfold nS
 rw[hk]
 simp
def lC(S:Nat→Prop)(w:World)(x:EE):Prop:=∀y,But S w y→bz y x.1 x.2
theorem lC.on{S:Nat→Prop}{w w':World}{x:EE}(h:lC S w x)(hb:But S w w'):lC S w' x:=fun y hy=>h y (hb.trans hy)
theorem lC.out{S:Nat→Prop}{w:World}{x:EE}(h:lC S w x):bz w x.1 x.2:=h w (But.refl _ _)
def Bo(d:Entry):Prop:=∀q∈d.name::d.aliases,bD q=true
end Go.WW
namespace Go.Proofs.YtaghcadlgbnbdaaGreatDoor
open Go.RowKit Go.WW
theorem IU{w:World}{e:Nat}{E:List EE}(h:MapOf w e (E.map fun x=>(textOf x.2.name,Value.agg (bC x))))(k:ByteArray)(hk:∀x∈E,textOf x.2.name≠k):(Instr.lookup 86 (.map (some e)) (.string k) true).run Tryz.prog w=.ok (.tuple #[.agg (ae eX ed),.bool false]) w:=by
 have hn:k∉(E.map fun x=>(textOf x.2.name,Value.agg (bC x))).map (·.1):=by
  intro hk'
  rw[List.map_map]at hk'
  obtain⟨x,hx,e⟩:=List.mem_map.1 hk'
  exact hk x hx e
 have:=MG (P:=Tryz.prog) (z:=.agg (ae eX ed)) true Tryz.underlying86 Tryz.underlying9 h (by kernel_rfl) hn
 simpa using this
theorem aii(b n e p:Nat)(re:ByteArray)(s:Int)(N:List (ByteArray×Value))(E:List EE)(P:List ah)(k:ByteArray)(w:World)(h:bT w b n e p re s N E P)(hk:∀x∈E,textOf x.2.name≠k) :
  Calls Tryz.prog 59 #[.pointer (some ⟨b,0,none⟩),.string k] w fun r w'=>r=.returned (.tuple #[])∧Below w.heap.size w w':=by
 have hB:Below w.heap.size w (w.alloc (.cells #[.pointer (some ⟨b,0,none⟩)] 131)):=(Below.refl _ _).alloc (Nat.le_refl _) _
 have h':=h.later hB
 have hlk:=IU h'.em k hk
 obtain⟨c0,c1,c2,c3,c4,f1,hl⟩:=fH h'.box
 go_enter Tryz.func59,Tryz.ntmps59
 go_wp2_with fail
 refine bodyPost_ret (results_none rfl _ _ _) rfl ⟨rfl,aC hB _⟩
theorem Xe(b n e p:Nat)(re:ByteArray)(s:Int)(N N1:List (ByteArray×Value))(E E1:List EE)(P:List ah)(k:ByteArray)(w:World)(h:bT w b n e p re s N E P)(hE:∀x∈E,lC (aX b n e p) w x∧Bo x.2)(hR:uw N E k N1 E1) :
  Calls Tryz.prog 59 #[.pointer (some ⟨b,0,none⟩),.string k] w fun r w'=>r=.returned (.tuple #[])∧But (aX b n e p) w w'∧bT w' b n e p re s N1 E1 P:=by
 rcases hR with⟨x,hx,rfl,rfl,rfl⟩|⟨hk,rfl,rfl⟩
 ·exact aie b n e p re s N E P x w h hx (hE x hx).1.out (hE x hx).2
 ·refine(aii b n e p re s _ _ P k w h hk).mono ?_
  rintro r w' ⟨rfl,hb⟩
  exact⟨rfl,But.of_below hb,h.later hb⟩
attribute [local go_sem] Oper.semAt_some
theorem aij(b n e p:Nat)(re:ByteArray)(s:Int)(N N1:List (ByteArray×Value))(E E1:List EE)(P:List ah)(r:aI)(d:Entry)(w:World)(h:bT w b n e p re s N E P)(hE:∀x∈E,lC (aX b n e p) w x∧Bo x.2)(hR:uw N E (textOf d.name) N1 E1)(he:lC (aX b n e p) w (r,d))(hok:Bo d) :
  Calls Tryz.prog 56 #[.pointer (some ⟨b,0,none⟩),.agg (ae r d)] w fun q w'=>q=.returned (.tuple #[])∧But (aX b n e p) w w'∧bT w' b n e p re s (rQ N1 (textOf d.name) (d.name::d.aliases)) (E1++[(r,d)]) P:=by
 have hB:Below w.heap.size w ((w.alloc (.cells #[.pointer (some ⟨b,0,none⟩)] 131)).alloc (.cells (ae r d) 32)):=aC ((Below.refl _ _).alloc (Nat.le_refl _) _) _
 have ht0:((w.alloc (.cells #[.pointer (some ⟨b,0,none⟩)] 131)).alloc (.cells (ae r d) 32)).heap[w.heap.size]?=some (.cells #[.pointer (some ⟨b,0,none⟩)] 131):=lS _ _ _
 have he0:((w.alloc (.cells #[.pointer (some ⟨b,0,none⟩)] 131)).alloc (.cells (ae r d) 32)).heap[w.heap.size+1]?=some (.cells (ae r d) 32):=by
  have:=World.alloc_heap_new (w.alloc (.cells #[.pointer (some ⟨b,0,none⟩)] 131)) (.cells (ae r d) 32)
  rwa[World.size_alloc]at this
 refine(callsIn_wide (n:=0)).1 ?_
 refine callsIn_of_wp_marks Tryz.func56 rfl trivial ?_ rfl
 simp only[Tryz.ntmps56,List.size_toArray,List.length_cons,List.length_nil,Nat.reduceAdd,Nat.reduceSub,Array.replicate_succ,Array.replicate_zero,List.push_toArray,List.append_toArray,List.nil_append,List.cons_append]
 gi_wp2
 generalize (w.alloc (.cells #[.pointer (some ⟨b,0,none⟩)] 131)).alloc (.cells (ae r d) 32)=W at *
 have h1:=h.later hB
 have hnb:∀k,w.heap.size≤k→¬aX b n e p k:=fun k hk hd=>by
  have q1:=(Array.getElem?_eq_some_iff.1 h.box).1
  have q2:=h.nm.lt
  have q3:=h.em.lt
  have q4:=h.pm.lt
  rcases hd with rfl|rfl|rfl|rfl<;>omega
 have n0:=hnb w.heap.size (Nat.le_refl _)
 have n1:=hnb (w.heap.size+1) (by omega)
 have hct:W.cell? ⟨w.heap.size,0,none⟩=some (.pointer (some ⟨b,0,none⟩)):=(ai ht0).1 0
 have hl0:w.heap.size<W.heap.size:=(Array.getElem?_eq_some_iff.1 ht0).1
 have hl1:w.heap.size+1<W.heap.size:=(Array.getElem?_eq_some_iff.1 he0).1
 have hre:row? W (w.heap.size+1) 0 17=some (ae r d):=by rw[bV he0];exact dH (by simp[go_sem])
 have hrn:=vJ hre
 have hno:∀q,q=d.name→bD q=true:=fun q hq=>hok q (by simp[hq])
 refine(wpIn_wide (n:=0)).2 ?_
 refine oP (aX b n e p) (But.refl _ W) (by kernel_rfl) (by kernel_rfl) ?_
 repeat (first|(refine aP (by rfl) ?_)|(refine aN (by rfl) (by rfl) (fun K hK=>?_);go_big_quiet_op;refine hK _ ?_;clear hK K))
 refine aS (by rfl) (by rfl) (fun K hK=>?_)
 go_wp2_with fail
 refine(rH _ _ W.drew ((he.out.name.later hB).later (Below.refl _ _).drew) (hno _ rfl)).mono ?_
 rintro q W1 ⟨rfl,hbk⟩
 dsimp only
 have hb1:Below W.heap.size W W1:=(Below.refl _ W).drew.trans hbk
 refine hK _ _ (bI (But.of_below hb1)) ?_
 clear hK K
 repeat (first|(refine aP (by rfl) ?_)|(refine aN (by rfl) (by rfl) (fun K hK=>?_);go_big_quiet_op;refine hK _ ?_;clear hK K))
 refine aS (by rfl) (by rfl) (fun K hK=>?_)
 go_wp2_with fail
 have hBW1:=ag hB hb1
 refine(Xe b n e p re s N N1 E E1 P _ W1 (h1.later hb1) (fun x hx=>⟨(hE x hx).1.on (But.of_below hBW1),(hE x hx).2⟩) hR).mono ?_
 rintro q W2 ⟨rfl,hb2,h2⟩
 dsimp only
 have hbW2:But (aX b n e p) W W2:=(But.of_below hb1).trans hb2
 refine hK _ _ (bI hbW2) ?_
 clear hK K
 refine bW ?_
 have rq:But (aX b n e p) w W2:=(But.of_below hB).trans hbW2
 have ht2:W2.heap[w.heap.size]?=some (.cells #[.pointer (some ⟨b,0,none⟩)] 131):=(hbW2.block _ hl0 n0).trans ht0
 have he2:W2.heap[w.heap.size+1]?=some (.cells (ae r d) 32):=(hbW2.block _ hl1 n1).trans he0
 clear hct hl0 hl1 hre hrn ht0 he0 hb1 hbk hBW1 hb2 hbW2 hB h1
 have hws:w.heap.size≤W2.heap.size:=rq.size
 obtain⟨c0,c1,c2,c3,c4,f1,hl⟩:=fH h2.box
 have hct:W2.cell? ⟨w.heap.size,0,none⟩=some (.pointer (some ⟨b,0,none⟩)):=(ai ht2).1 0
 have hl0:w.heap.size<W2.heap.size:=(Array.getElem?_eq_some_iff.1 ht2).1
 have hl1:w.heap.size+1<W2.heap.size:=(Array.getElem?_eq_some_iff.1 he2).1
 have hre:row? W2 (w.heap.size+1) 0 17=some (ae r d):=by rw[bV he2];exact dH (by simp[go_sem])
 have hrn:=vJ hre
 have hel:=h.em.lt
 have m0:¬one e w.heap.size:=aT (by omega)
 have m1:¬one e (w.heap.size+1):=aT (by omega)
 have m2:¬one e b:=aT (gu h.box h.em)
 gi_wp2
 refine(wpIn_wide (n:=0)).2 ?_
 refine oP (one e) (But.refl _ W2) (by kernel_rfl) (by kernel_rfl) ?_
 repeat (first|(refine aP (by rfl) ?_)|(refine aN (by rfl) (by rfl) (fun K hK=>?_);go_big_quiet_op;refine hK _ ?_;clear hK K))
 refine aS (by rfl) (by rfl) (fun K hK=>?_)
 go_wp2_with fail
 refine(rH _ _ W2.drew ((he W2 rq).name.later (Below.refl _ _).drew) (hno _ rfl)).mono ?_
 rintro q W3 ⟨rfl,hbk⟩
 dsimp only
 have hb3:Below W2.heap.size W2 W3:=(Below.refl _ W2).drew.trans hbk
 refine hK _ _ (bI (But.of_below hb3)) ?_
 clear hK K
 repeat (first|(refine aP (by rfl) ?_)|(refine aN (by rfl) (by rfl) (fun K hK=>?_);go_big_quiet_op;refine hK _ ?_;clear hK K))
 obtain⟨W4,hrun,Oh,hb4,hs4⟩:=AL (P:=Tryz.prog) (k:=textOf d.name) (v:=.agg (ae r d)) Tryz.underlying86 Tryz.underlying9 (h2.em.at (hb3.block e h2.em.lt))
 rw[show Value.agg (ae r d)=Value.agg (bC (r,d)) from rfl,aih E1 (r,d) hR.no]at Oh
 have ny:But (one e) W2 W4:=(But.of_below hb3).trans ⟨hb4.os,hb4.tape,hb4.output,hb4.size,hb4.block⟩
 refine aS (by rfl) (by rfl) (fun K hK=>?_)
 go_wp2_with fail
 refine hK _ _ (bI ny) ?_
 clear hK K
 refine bW ?_
 have Oi:But (aX b n e p) w W4:=rq.trans (ny.mono fun k hk=>.inr (.inr (.inl hk)))
 have Xf:W4.heap[w.heap.size]?=some (.cells #[.pointer (some ⟨b,0,none⟩)] 131):=(ny.block _ hl0 m0).trans ht2
 have he4:W4.heap[w.heap.size+1]?=some (.cells (ae r d) 32):=(ny.block _ hl1 m1).trans he2
 have h4:bT W4 b n e p re s N1 (E1++[(r,d)]) P:=⟨(ny.block b hl m2).trans h2.box,h2.nm.at (ny.block n h2.nm.lt (aT h.ne.1)),Oh,h2.pm.at (ny.block p h2.pm.lt (aT (fun e'=>h.ne.2.2 e'.symm))),h.ne⟩
 clear hct hl0 hl1 hre hrn c0 c1 c2 c3 c4 f1 hl hrun Oh hb4 hs4 hbk hb3 ny
 have hct:W4.cell? ⟨w.heap.size,0,none⟩=some (.pointer (some ⟨b,0,none⟩)):=(ai Xf).1 0
 have hl1:w.heap.size+1<W4.heap.size:=(Array.getElem?_eq_some_iff.1 he4).1
 have hre:row? W4 (w.heap.size+1) 0 17=some (ae r d):=by rw[bV he4];exact dH (by simp[go_sem])
 gi_wp2
 refine⟨trivial,rfl,(callsIn_wide.2 (NR _ _ _ (he W4 Oi))).mono ?_⟩
 rintro q w3 ⟨bN,sN,X,rfl,hb3,hbN,Ez,hX,hd⟩
 have h3:=h4.later hb3
 have AZ:But (aX b n e p) w w3:=Oi.trans (But.of_below hb3)
 have ht3:=aA hb3 Xf
 have he3:=aA hb3 he4
 have hs3:=hb3.size
 have hnl:=h.nm.lt
 have hw4:=Oi.size
 clear hct hl1 hre ht2 he2 h2 rq
 dsimp only
 gi_wp2
 refine(wpIn_wide (n:=0)).2 ?_
 refine vg (gf:=109) (lb:=#[.pointer (some ⟨bN,0,none⟩)]) (by simp[go_sem]) (enters_of Tryz.func109 (by kernel_rfl) rfl) (S:=one n) ?_ (xs:=X) (V:=VN) ?_ (NT bN sN X (one n) w3 Ez ?_ ?_)
  (fun c1 k Wc=>But (one n) w3 Wc∧MapOf Wc n (rQ N1 (textOf d.name) ((X.map (·.2)).take k))∧w3.heap.size<c1) (fun _ _ _ _=>False) ?_ ?_ ?_ ?_ ?_ ?_
 ·rintro k (rfl:k=n);omega
 ·rintro c1 xx v W0 Wc ⟨s',rfl,_⟩;rfl
 ·rintro k (rfl:k=n);omega
 ·intro y hy
  exact hd y fun k hk=>hy.block k hk.2 fun hk'=>by
   rcases hk' with(e:k=n)|e
   ·have:=hk.1;omega
   ·have:=hk.2;omega
 ·intro c1 Wc h1 h2 hb
  exact⟨But.of_below hb,h3.nm.at (hb.block n h3.nm.lt),h1⟩
 ·rintro c1 k Wc lh ⟨h1,h2,h4⟩ hb
  refine⟨h1.past hb (fun j hj=>hj.1),h2.at (hb.block n h2.lt fun hj=>?_),h4⟩
  have:=hj.1
  have:=h3.nm.lt
  omega
 ·rintro c c1 k Wc lh hf
  exact hf.elim
 ·rintro c1 k xx v W0 Wc hxx ⟨s',rfl,hp⟩ ⟨iD,hm0,hc0⟩ hbs hc1 mZ
  have hsW:=hbs.size
  have hc2:c1≤Wc.heap.size:=Nat.le_trans mZ hsW
  have hbu:But (one n) w3 Wc:=iD.past hbs (fun j hj=>hj.1)
  have hm:=hm0.at (hbs.block n hm0.lt (fun hj=>by have:=hj.1;have:=h3.nm.lt;omega))
  clear iD hm0 hbs
  obtain⟨s0,q⟩:=xx
  have hqm:(X.map (·.2))[k]?=some q:=by rw[List.getElem?_map,hxx];rfl
  have Bl:bD q=true:=hok q (by rw[←hX];exact List.mem_of_getElem? hqm)
  have HP:=Lib.hid hp
  clear hp
  dsimp only
  gi_wp2
  have hal:Below Wc.heap.size Wc (Wc.alloc (.cells (ak s' q) 25)):=(Below.refl _ _).alloc (Nat.le_refl _) _
  refine⟨hal,fun U hU=>?_⟩
  have lU:U.heap[Wc.heap.size]?=some (.cells (ak s' q) 25):=(hU.block _ (by simp) (aT (by omega))).trans (World.alloc_heap_new _ _)
  have qi:Wc.heap.size<U.heap.size:=(Array.getElem?_eq_some_iff.1 lU).1
  have dU:But (one n) w3 U:=(hbu.trans (But.of_below hal)).past hU (fun j hj=>by have:j=_:=hj;omega)
  have rJ:MapOf U n (rQ N1 (textOf d.name) ((X.map (·.2)).take k)):=hm.at ((hU.block n (by have:=hm.lt;simp;omega) (aT (by have:=h3.nm.lt;omega))).trans (hal.block n hm.lt))
  have qh:bg U s' q:=HP.out U fun j hj=>(hU.block j (by have:=hj.2;simp;omega) (aT (by have:=hj.1;omega))).trans (hal.block j hj.2)
  have Oj:bg U r.parts d.name:=(he U (AZ.trans (dU.mono fun j hj=>.inr (.inl hj)))).name
  have hbn:b≠n:=gu h3.box h3.nm
  have htn:w.heap.size≠n:=by omega
  have Xg:w.heap.size+1≠n:=by omega
  have jC:U.heap[b]?=some (.cells (kJ re s n e p) 91):=(dU.block b (Array.getElem?_eq_some_iff.1 h3.box).1 (aT hbn)).trans h3.box
  have zh:U.heap[w.heap.size]?=some (.cells #[.pointer (some ⟨b,0,none⟩)] 131):=(dU.block _ (Array.getElem?_eq_some_iff.1 ht3).1 (aT htn)).trans ht3
  have lW:U.heap[w.heap.size+1]?=some (.cells (ae r d) 32):=(dU.block _ (Array.getElem?_eq_some_iff.1 he3).1 (aT Xg)).trans he3
  clear hal hU hbu HP hm hsW
  obtain⟨c0,c1',c2,c3,c4,f1,hl⟩:=fH jC
  have hct:U.cell? ⟨w.heap.size,0,none⟩=some (.pointer (some ⟨b,0,none⟩)):=(ai zh).1 0
  have hlt:w.heap.size<U.heap.size:=(Array.getElem?_eq_some_iff.1 zh).1
  have hlt1:w.heap.size+1<U.heap.size:=(Array.getElem?_eq_some_iff.1 lW).1
  have jB:row? U Wc.heap.size 0 2=some (ak s' q):=by rw[bV lU];exact dH (by simp[go_sem])
  have hrn:row? U (w.heap.size+1) 0 2=some (ak r.parts d.name):=vJ (d:=d) (by rw[bV lW];exact dH (by simp[go_sem]))
  have o1:=aT hbn
  have o2:=aT htn
  have o4:=aT Xg
  have o3:¬one n Wc.heap.size:=aT (by have:=h3.nm.lt;omega)
  gi_wp2
  refine TI.xm (one n) (But.refl _ U) (by kernel_rfl) (by kernel_rfl) (by kernel_rfl) ?_
  repeat (first|(refine TI.aP (by rfl) ?_)|(refine TI.gI (by rfl) (by rfl) (fun K hK=>?_);go_big_quiet_op;refine hK _ ?_;clear hK K))
  refine TI.jg (by rfl) (by rfl) (by rfl) (fun K hK=>?_)
  go_wp2_with fail
  refine(rH _ _ U.drew (qh.later (Below.refl _ _).drew) Bl).mono ?_
  rintro z U2 ⟨rfl,hbk⟩
  dsimp only
  have hbb:Below U.heap.size U U2:=(Below.refl _ U).drew.trans hbk
  refine hK _ _ (bI (But.of_below hbb)) ?_
  clear hK K
  repeat (first|(refine TI.aP (by rfl) ?_)|(refine TI.gI (by rfl) (by rfl) (fun K hK=>?_);go_big_quiet_op;refine hK _ ?_;clear hK K))
  refine TI.jg (by rfl) (by rfl) (by rfl) (fun K hK=>?_)
  go_wp2_with fail
  refine(rH _ _ U2 (Oj.later hbb) (hno _ rfl)).mono ?_
  rintro z U2' ⟨rfl,hbk'⟩
  dsimp only
  have Ol:=ag hbb hbk'
  refine hK _ _ (bI (But.of_below Ol)) ?_
  clear hK K
  obtain⟨U3,hrun,zi,fF,Xd⟩:=AL (P:=Tryz.prog) (k:=textOf q) (v:=.string (textOf d.name)) Tryz.underlying85 Tryz.underlying9 (rJ.at (Ol.block n rJ.lt))
  have zk:But (one n) U U3:=(But.of_below Ol).trans ⟨fF.os,fF.tape,fF.output,fF.size,fF.block⟩
  refine TI.jg (by rfl) (by rfl) (by rfl) (fun K hK=>?_)
  go_wp2_with fail
  refine hK _ _ (bI zk) ?_
  clear hK K
  refine TI.bW ?_
  gi_wp2
  refine⟨zk.mono fun _ h=>.inl h,dU.trans zk,?_,by omega⟩
  rw[←hX,take_snoc hqm,aif]
  exact zi
 ·rintro c1 Wc ⟨hbu,hm,hc0⟩ hD
  rw[List.take_of_length_le (by simp),hX]at hm
  have hbn:b≠n:=gu h3.box h3.nm
  gi_wp2
  refine⟨by simp,.inl ⟨_,_,rfl,run_takeDeferred hD,?_⟩⟩
  have hfin:But (one w3.heap.size) Wc (Wc.putObj w3.heap.size (.deferred none)):=But.putObj _
  have hbs:=hbu.size
  have aik:=(Array.getElem?_eq_some_iff.1 h3.box).1
  have ail:=h3.em.lt
  have aq1:=h3.nm.lt
  have aim:=h3.pm.lt
  have hall:But (aX b n e p) w Wc:=AZ.trans (hbu.mono fun k hk=>.inr (.inl hk))
  refine⟨.tuple #[],by simp[results,Tryz.f56,go_sem],rfl,hall.past hfin (fun j hj=>by have:j=_:=hj;omega),?_,?_,?_,?_,h.ne⟩
  ·exact(hfin.block b (by omega) (aT (by omega))).trans ((hbu.block b aik (aT hbn)).trans h3.box)
  ·exact hm.at (hfin.block n hm.lt (aT (by omega)))
  ·exact h3.em.at ((hfin.block e (by omega) (aT (by omega))).trans (hbu.block e ail (aT (fun e'=>h.ne.1 e'.symm))))
  ·exact h3.pm.at ((hfin.block p (by omega) (aT (by omega))).trans (hbu.block p aim (aT (fun e'=>h.ne.2.1 e'.symm))))
 ·intro c c1 k Wc hf
  exact hf.elim
end Go.Proofs.YtaghcadlgbnbdaaGreatDoor
namespace Go.WW
open Go.RowKit
theorem ain{P:Program}{ops:Array Oper}{S:World→Prop}{st:Oper→Bool}{Q:Act→World→Prop}{o:Oper}{rest:List Oper}{a:Act}{w:World}(hw:Region.wanted o (yielded ops a.tmps)=false)(hs:a.put o.dst undef=a)(h:aF P ops st S Q rest a w):aF P ops st S Q (o::rest) a w:=
 aP hw (by rw[hs];exact h)
theorem EC{P:Program}{id:Nat}{Q':Exit→Act→World→Prop}{a:Act}{W w:World}{l:List Oper}(x c:Nat)(idx:List Nat)(hW:Below W.heap.size W w)(hm:P.follows .mixedOrders=true)(hB:Ep eU l.toArray x c=true)(hi:mv x c (List.range l.toArray.size)=idx)
  (h:∀w1,Below W.heap.size W w1→aF P l.toArray eU (since W) (fun a' w'=>Q' .normal a' w') l a w1)
  (h2:∀w1,Below W.heap.size W w1→aF P l.toArray eU (since W) (fun a' w'=>Q' .normal a' w') (pick l idx) a w1):(Code.region id l.toArray true).wp P Q' a w:=
 Wx (since W) eU x c idx hm hB hi ⟨⟨w.drew,hW.drew⟩,rfl⟩ (h _ hW.drew) (h2 _ hW.drew)
def gQ(L:List (ByteArray×ByteArray)):List (ByteArray×Value):=L.map fun x=>(x.1,Value.string x.2)
def IV(L:List (ByteArray×ByteArray))(d:Entry):Prop:=∃q∈d.name::d.aliases,∃o,(textOf q,o)∈L∧o≠textOf d.name
def uy(L:List (ByteArray×ByteArray))(k:ByteArray)(ps:List aB):Prop:=∀q∈ps,∀o,(textOf q,o)∈L→o=k
theorem Xh{L:List (ByteArray×ByteArray)}{k:ByteArray}{ps:List aB}{q:aB}(h:uy L k ps)(hq:∀o,(textOf q,o)∈L→o=k):uy L k (ps++[q]):=by
 intro x hx
 rcases List.mem_append.1 hx with hx|hx
 ·exact h x hx
 ·obtain rfl:x=q:=by simpa using hx
  exact hq
theorem aio{L:List (ByteArray×ByteArray)}{k:ByteArray}(h:∀o,(k,o)∉L):k∉(gQ L).map (·.1):=by
 intro hk
 simp only[gQ,List.map_map,List.mem_map,Function.comp]at hk
 obtain⟨⟨a,o⟩,hx,rfl⟩:=hk
 exact h o hx
end Go.WW
namespace Go.Proofs.YtaghcadlgbnbdaaGreatDoor
open Go.RowKit Go.WW
def uz(w:World)(b:Nat)(r:aI)(d:Entry):World:=((w.alloc (.cells #[.pointer (some ⟨b,0,none⟩)] 40)).alloc (.cells (ae r d) 32)).alloc (.cells #[.int .i64 0] 65)
theorem IW(w:World)(b:Nat)(r:aI)(d:Entry):Below w.heap.size w (uz w b r d)∧(uz w b r d).heap[w.heap.size]?=some (.cells #[.pointer (some ⟨b,0,none⟩)] 40)∧(uz w b r d).heap[w.heap.size+1]?=some (.cells (ae r d) 32)∧(uz w b r d).heap[w.heap.size+1+1]?=some (.cells #[.int .i64 0] 65)∧(uz w b r d).heap.size=w.heap.size+1+1+1:=by
 unfold uz
 refine⟨aC (aC ((Below.refl _ _).alloc (Nat.le_refl _) _) _) _,?_,?_,?_,by simp⟩
 ·rw[Below.heap_alloc _ _ _ (by simp;omega)];exact lS _ _ _
 ·rw[Below.heap_alloc _ _ _ (by simp)]
  have:=World.alloc_heap_new (w.alloc (.cells #[.pointer (some ⟨b,0,none⟩)] 40)) (.cells (ae r d) 32)
  rwa[World.size_alloc]at this
 ·have:=World.alloc_heap_new ((w.alloc (.cells #[.pointer (some ⟨b,0,none⟩)] 40)).alloc (.cells (ae r d) 32)) (.cells #[.int .i64 0] 65)
  simpa using this
theorem aip{w:World}{n:Nat}{L:List (ByteArray×ByteArray)}(h:MapOf w n (gQ L)){k o:ByteArray}(hx:(k,o)∈L):(Instr.lookup 85 (.map (some n)) (.string k) true).run Tryz.prog w=.ok (.tuple #[.string o,.bool true]) w:=by
 have:=MF (P:=Tryz.prog) true Tryz.underlying85 Tryz.underlying9 h (List.mem_map.2 ⟨(k,o),hx,rfl⟩)
 exact this
theorem aiq{w:World}{n:Nat}{L:List (ByteArray×ByteArray)}(h:MapOf w n (gQ L)){k:ByteArray}(hx:∀o,(k,o)∉L):(Instr.lookup 85 (.map (some n)) (.string k) true).run Tryz.prog w=.ok (.tuple #[.string ⟨#[]⟩,.bool false]) w:=by
 have:=MG (P:=Tryz.prog) (z:=.string ⟨#[]⟩) true Tryz.underlying85 Tryz.underlying9 h (by kernel_rfl) (aio hx)
 simpa using this
theorem air(E:List EE)(k:ByteArray):∃(r0:aI) (d0:Entry) (ok:Bool),∀(w:World) (e:Nat),MapOf w e (E.map fun x=>(textOf x.2.name,Value.agg (bC x)))→(Instr.lookup 86 (.map (some e)) (.string k) true).run Tryz.prog w=.ok (.tuple #[.agg (ae r0 d0),.bool ok]) w:=by
 by_cases h:∃x∈E,textOf x.2.name=k
 ·obtain⟨x,hx,rfl⟩:=h
  exact⟨x.1,x.2,true,fun w e hm=>IQ hm x hx⟩
 ·exact⟨eX,ed,false,fun w e hm=>IU hm k (fun x hx e'=>h ⟨x,hx,e'⟩)⟩
theorem ais(P:List ah)(k:ByteArray):∃(q0:ah) (ok:Bool),(∀(w:World) (p:Nat),MapOf w p (P.map fun q=>(q.name,Value.agg (az q)))→(Instr.lookup 87 (.map (some p)) (.string k) true).run Tryz.prog w=.ok (.tuple #[.agg (az q0),.bool ok]) w)∧ok=P.any (fun x=>decide (x.name=k)):=by
 cases h:P.any (fun x=>decide (x.name=k))with
 |true=>
  obtain⟨q,hq,e⟩:=List.any_eq_true.1 h
  have e':q.name=k:=by simpa using e
  subst e'
  exact⟨q,true,fun w p hm=>IK hm q hq,rfl⟩
 |false=>exact⟨ni,false,fun w p hm=>IL hm k h,rfl⟩
attribute [local irreducible] aF
theorem Xi(b n e p:Nat)(re:ByteArray)(s:Int)(N:List (ByteArray×Value))(E:List EE)(P:List ah)(r:aI)(d:Entry)(w:World)(h:bT w b n e p re s N E P)(hre:¬re=⟨#[]⟩)(he:bz w r d)(hv:bF d=false) :
  Calls Tryz.prog 18 #[.pointer (some ⟨b,0,none⟩),.agg (ae r d)] w fun q w'=>q=.returned (.int .i64 2)∧Below w.heap.size w w':=by
 obtain⟨hB,ht,iK,hr4,hsz⟩:=IW w b r d
 go_enter Tryz.func18,Tryz.ntmps18
 go_wp2_with fail
 have he':=he.later hB
 have h':=h.later hB
 unfold uz at hB ht iK hr4 hsz he' h'
 generalize ((w.alloc (.cells #[.pointer (some ⟨b,0,none⟩)] 40)).alloc (.cells (ae r d) 32)).alloc (.cells #[.int .i64 0] 65)=W at *
 obtain⟨c0,c1,c2,c3,c4,f1,hl⟩:=fH h'.box
 refine(lq _ _ _ c0 hre).mono ?_
 rintro x w' ⟨rfl,rfl⟩
 dsimp only
 have lX:row? W (w.heap.size+1) 0 17=some (ae r d):=by rw[bV iK];exact dH (by simp[go_sem])
 have jJ:=(ai iK).1
 have hct:W.cell? ⟨w.heap.size,0,none⟩=some (.pointer (some ⟨b,0,none⟩)):=(ai ht).1 0
 have hc4:W.cell? ⟨w.heap.size+1+1,0,none⟩=some (.int .i64 0):=(ai hr4).1 0
 have hf4:=(ai hr4).2.1
 have l0:w.heap.size<W.heap.size:=by omega
 have l1:w.heap.size+1<W.heap.size:=by omega
 have l2:w.heap.size+1+1<W.heap.size:=by omega
 clear hsz
 go_wp2_with fail
 refine xh (Below.refl _ W) (by kernel_rfl) (by kernel_rfl) ?_
 intro w1 hb1
 repeat (first|(refine aP (by rfl) ?_)|(refine aN (by rfl) (by rfl) (fun K hK=>?_);go_big_quiet_op;refine hK _ ?_;clear hK K))
 refine aS (by rfl) (by rfl) (fun K hK=>?_)
 go_wp2_with fail
 refine(Iz r d w1 (he'.later hb1)).mono ?_
 rintro q w2 ⟨rfl,hb2⟩
 rw[hv]
 dsimp only
 have hb2':=ag hb1 hb2
 refine hK _ _ (dC hb2') ?_
 clear hK K
 iterate 2 (refine aN (by kernel_rfl) (by kernel_rfl) (fun K hK=>?_);go_big_quiet_op;refine hK _ ?_;clear hK K)
 iterate 9 (refine ain (by kernel_rfl) (by kernel_rfl) ?_)
 iterate 1 (refine aN (by kernel_rfl) (by kernel_rfl) (fun K hK=>?_);go_big_quiet_op;refine hK _ ?_;clear hK K)
 refine bW ?_
 have Xj:w2.cell? ⟨w.heap.size,0,none⟩=some (.pointer (some ⟨b,0,none⟩)):=(hb2'.cell l0).trans hct
 have Xk:w2.cell? ⟨w.heap.size+1+1,0,none⟩=some (.int .i64 0):=(hb2'.cell l2).trans hc4
 have Xl:w2.frozen? ⟨w.heap.size+1+1,0,none⟩=false:=(hb2'.frozen l2).trans (hf4 0)
 have xJ:w2.heap[w.heap.size+1+1]?=some (.cells #[.int .i64 0] 65):=(hb2'.block _ l2).trans hr4
 have Xm:w.heap.size+1+1<w2.heap.size:=(Array.getElem?_eq_some_iff.1 xJ).1
 go_wp2_with fail
 have hset:=cZ (o:=0) (.int .i64 2) xJ
 have hfc:(w2.setCell ⟨w.heap.size+1+1,0,none⟩ (.int .i64 2)).cell? ⟨w.heap.size+1+1,0,none⟩=some (.int .i64 2):=(ai hset).1 0
 refine bodyPost_ret (v:=.int .i64 2) (by simp[results,Tryz.results18,go_sem,hfc]) rfl ?_
 exact⟨rfl,(ag hB hb2').setCell (show w.heap.size≤w.heap.size+1+1 by omega) _⟩
theorem ait(b n e p:Nat)(re:ByteArray)(s:Int)(N:List (ByteArray×Value))(E:List EE)(P:List ah)(r:aI)(d:Entry)(w:World)(h:bT w b n e p re s N E P)(hre:¬re=⟨#[]⟩)(he:bz w r d)(hv:bF d=true)(hrl:¬d.name.aG=re) :
  Calls Tryz.prog 18 #[.pointer (some ⟨b,0,none⟩),.agg (ae r d)] w fun q w'=>q=.returned (.int .i64 2)∧Below w.heap.size w w':=by
 have Xn:=kD _ _ hrl
 obtain⟨hB,ht,iK,hr4,hsz⟩:=IW w b r d
 go_enter Tryz.func18,Tryz.ntmps18
 go_wp2_with fail
 have he':=he.later hB
 have h':=h.later hB
 unfold uz at hB ht iK hr4 hsz he' h'
 generalize ((w.alloc (.cells #[.pointer (some ⟨b,0,none⟩)] 40)).alloc (.cells (ae r d) 32)).alloc (.cells #[.int .i64 0] 65)=W at *
 obtain⟨c0,c1,c2,c3,c4,f1,hl⟩:=fH h'.box
 refine(lq _ _ _ c0 hre).mono ?_
 rintro x w' ⟨rfl,rfl⟩
 dsimp only
 have lX:row? W (w.heap.size+1) 0 17=some (ae r d):=by rw[bV iK];exact dH (by simp[go_sem])
 have jJ:=(ai iK).1
 have hct:W.cell? ⟨w.heap.size,0,none⟩=some (.pointer (some ⟨b,0,none⟩)):=(ai ht).1 0
 have hc4:W.cell? ⟨w.heap.size+1+1,0,none⟩=some (.int .i64 0):=(ai hr4).1 0
 have hf4:=(ai hr4).2.1
 have l0:w.heap.size<W.heap.size:=by omega
 have l1:w.heap.size+1<W.heap.size:=by omega
 have l2:w.heap.size+1+1<W.heap.size:=by omega
 clear hsz
 go_wp2_with fail
 refine xh (Below.refl _ W) (by kernel_rfl) (by kernel_rfl) ?_
 intro w1 hb1
 repeat (first|(refine aP (by rfl) ?_)|(refine aN (by rfl) (by rfl) (fun K hK=>?_);go_big_quiet_op;refine hK _ ?_;clear hK K))
 refine aS (by rfl) (by rfl) (fun K hK=>?_)
 go_wp2_with fail
 refine(Iz r d w1 (he'.later hb1)).mono ?_
 rintro q w2 ⟨rfl,hb2⟩
 rw[hv]
 dsimp only
 have hb2':=ag hb1 hb2
 refine hK _ _ (dC hb2') ?_
 clear hK K
 iterate 12 (refine aN (by kernel_rfl) (by kernel_rfl) (fun K hK=>?_);go_big_quiet_op;refine hK _ ?_;clear hK K)
 refine bW ?_
 have Xj:w2.cell? ⟨w.heap.size,0,none⟩=some (.pointer (some ⟨b,0,none⟩)):=(hb2'.cell l0).trans hct
 have Xk:w2.cell? ⟨w.heap.size+1+1,0,none⟩=some (.int .i64 0):=(hb2'.cell l2).trans hc4
 have Xl:w2.frozen? ⟨w.heap.size+1+1,0,none⟩=false:=(hb2'.frozen l2).trans (hf4 0)
 have xJ:w2.heap[w.heap.size+1+1]?=some (.cells #[.int .i64 0] 65):=(hb2'.block _ l2).trans hr4
 have Xm:w.heap.size+1+1<w2.heap.size:=(Array.getElem?_eq_some_iff.1 xJ).1
 go_wp2_with fail
 have hset:=cZ (o:=0) (.int .i64 2) xJ
 have hfc:(w2.setCell ⟨w.heap.size+1+1,0,none⟩ (.int .i64 2)).cell? ⟨w.heap.size+1+1,0,none⟩=some (.int .i64 2):=(ai hset).1 0
 refine bodyPost_ret (v:=.int .i64 2) (by simp[results,Tryz.results18,go_sem,hfc]) rfl ?_
 exact⟨rfl,(ag hB hb2').setCell (show w.heap.size≤w.heap.size+1+1 by omega) _⟩
theorem aiu(b n e p:Nat)(re:ByteArray)(s:Int)(N:List (ByteArray×Value))(E:List EE)(P:List ah)(r:aI)(d:Entry)(w:World)(h:bT w b n e p re s N E P)(hre:¬re=⟨#[]⟩)(he:bz w r d)(hv:bF d=true)(hrl:d.name.aG=re)(hpe:¬d.aK=⟨#[]⟩)(hP:P.any (fun x=>decide (x.name=d.aK))=false) :
  Calls Tryz.prog 18 #[.pointer (some ⟨b,0,none⟩),.agg (ae r d)] w fun q w'=>q=.returned (.int .i64 9)∧Below w.heap.size w w':=by
 have Xn:=str_eq _ _ hrl
 have hp0:=kD _ _ hpe
 have hp1:¬d.aK.toList=[]:=fun h=>hpe (toList_inj (b:=⟨#[]⟩) (by rw[h,ByteArray.toList_eq]))
 have hp2:d.aK.toList.isEmpty=false:=by cases h:d.aK.toList<;>simp_all
 obtain⟨hB,ht,iK,hr4,hsz⟩:=IW w b r d
 go_enter Tryz.func18,Tryz.ntmps18
 go_wp2_with fail
 have he':=he.later hB
 have h':=h.later hB
 unfold uz at hB ht iK hr4 hsz he' h'
 generalize ((w.alloc (.cells #[.pointer (some ⟨b,0,none⟩)] 40)).alloc (.cells (ae r d) 32)).alloc (.cells #[.int .i64 0] 65)=W at *
 obtain⟨c0,c1,c2,c3,c4,f1,hl⟩:=fH h'.box
 refine(lq _ _ _ c0 hre).mono ?_
 rintro x w' ⟨rfl,rfl⟩
 dsimp only
 have lX:row? W (w.heap.size+1) 0 17=some (ae r d):=by rw[bV iK];exact dH (by simp[go_sem])
 have jJ:=(ai iK).1
 have hct:W.cell? ⟨w.heap.size,0,none⟩=some (.pointer (some ⟨b,0,none⟩)):=(ai ht).1 0
 have hc4:W.cell? ⟨w.heap.size+1+1,0,none⟩=some (.int .i64 0):=(ai hr4).1 0
 have hf4:=(ai hr4).2.1
 have l0:w.heap.size<W.heap.size:=by omega
 have l1:w.heap.size+1<W.heap.size:=by omega
 have l2:w.heap.size+1+1<W.heap.size:=by omega
 clear hsz
 go_wp2_with fail
 refine xh (Below.refl _ W) (by kernel_rfl) (by kernel_rfl) ?_
 intro w1 hb1
 repeat (first|(refine aP (by rfl) ?_)|(refine aN (by rfl) (by rfl) (fun K hK=>?_);go_big_quiet_op;refine hK _ ?_;clear hK K))
 refine aS (by rfl) (by rfl) (fun K hK=>?_)
 go_wp2_with fail
 refine(Iz r d w1 (he'.later hb1)).mono ?_
 rintro q w2 ⟨rfl,hb2⟩
 rw[hv]
 dsimp only
 have hb2':=ag hb1 hb2
 refine hK _ _ (dC hb2') ?_
 clear hK K
 iterate 12 (refine aN (by kernel_rfl) (by kernel_rfl) (fun K hK=>?_);go_big_quiet_op;refine hK _ ?_;clear hK K)
 refine bW ?_
 have h2:=h'.later hb2'
 have hlk:∀x:Later w2,(Instr.lookup 87 (.map (some p)) (.string d.aK) true).run Tryz.prog x.w=.ok (.tuple #[.agg (az ni),.bool false]) x.w:=fun x=>IL (h2.pm.at (x.b.block p h2.pm.lt)) _ hP
 have ht2:=aA hb2' ht
 have he2:=aA hb2' iK
 have hr2:=aA hb2' hr4
 clear c0 c1 c2 c3 c4 f1 hl lX jJ hct hc4 hf4
 obtain⟨c0,c1,c2,c3,c4,f1,hl⟩:=fH h2.box
 have jJ:=(ai he2).1
 have hct:w2.cell? ⟨w.heap.size,0,none⟩=some (.pointer (some ⟨b,0,none⟩)):=(ai ht2).1 0
 have m0:w.heap.size<w2.heap.size:=(Array.getElem?_eq_some_iff.1 ht2).1
 have m1:w.heap.size+1<w2.heap.size:=(Array.getElem?_eq_some_iff.1 he2).1
 go_wp2_with fail
 refine xh (Below.refl _ w2) (by kernel_rfl) (by kernel_rfl) ?_
 intro w3 hb3
 iterate 11 (refine aN (by kernel_rfl) (by kernel_rfl) (fun K hK=>?_);go_big_quiet_op;refine hK _ ?_;clear hK K)
 refine aS (by rfl) (by rfl) (fun K hK=>?_)
 go_wp2_with fail
 refine hK _ _ (dC (aC hb3 _)) ?_
 clear hK K
 refine aS (by rfl) (by rfl) (fun K hK=>?_)
 go_wp2_with fail
 refine hK _ _ (dC (aC hb3 (.cells (az ni) 35))) ?_
 clear hK K
 iterate 1 (refine aN (by kernel_rfl) (by kernel_rfl) (fun K hK=>?_);go_big_quiet_op;refine hK _ ?_;clear hK K)
 refine bW ?_
 have hb4:=aC hb3 (.cells (az ni) 35)
 clear hb3 hlk
 generalize (w3.alloc (.cells (az ni) 35))=V at *
 have ny:=ag hb2' hb4
 have aq2:V.cell? ⟨w.heap.size+1,6,none⟩=some (.string d.aK):=(ai (aA ny iK)).1 6
 have m1V:w.heap.size+1<V.heap.size:=by have:=hb4.size;omega
 have hc4:W.cell? ⟨w.heap.size+1+1,0,none⟩=some (.int .i64 0):=(ai hr4).1 0
 have hf4:=(ai hr4).2.1
 have hct:=(ai ht).1 0
 have Xj:V.cell? ⟨w.heap.size,0,none⟩=some (.pointer (some ⟨b,0,none⟩)):=(ny.cell l0).trans hct
 have Xk:V.cell? ⟨w.heap.size+1+1,0,none⟩=some (.int .i64 0):=(ny.cell l2).trans hc4
 have Xl:V.frozen? ⟨w.heap.size+1+1,0,none⟩=false:=(ny.frozen l2).trans (hf4 0)
 have xJ:V.heap[w.heap.size+1+1]?=some (.cells #[.int .i64 0] 65):=(ny.block _ l2).trans hr4
 have Xm:w.heap.size+1+1<V.heap.size:=(Array.getElem?_eq_some_iff.1 xJ).1
 go_wp2_with fail
 have hset:=cZ (o:=0) (.int .i64 9) xJ
 have hfc:(V.setCell ⟨w.heap.size+1+1,0,none⟩ (.int .i64 9)).cell? ⟨w.heap.size+1+1,0,none⟩=some (.int .i64 9):=(ai hset).1 0
 refine bodyPost_ret (v:=.int .i64 9) (by simp[results,Tryz.results18,go_sem,hfc]) rfl ?_
 exact⟨rfl,(ag hB ny).setCell (show w.heap.size≤w.heap.size+1+1 by omega) _⟩
end Go.Proofs.YtaghcadlgbnbdaaGreatDoor
namespace Go.Proofs.YtaghcadlgbnbdaaGreatDoor
open Go.RowKit Go.WW
attribute [local go_sem] Oper.semAt_some
attribute [local irreducible] aF
def Xo(b n e p:Nat)(re:ByteArray)(s:Int)(NL:List (ByteArray×ByteArray))(N1:List (ByteArray×Value))(E1:List EE)(P:List ah)(d:Entry)(w:World)(q:Ending)(w':World):Prop:=
 (q=.returned (.int .i64 11)∧IV NL d∧Below w.heap.size w w')∨
 (q=.returned (.int .i64 0)∧uy NL (textOf d.name) (d.name::d.aliases)∧But (aX b n e p) w w'∧∃r',lC (fun k=>k<w.heap.size) w' (r',d)∧bT w' b n e p re (s+1) (rQ N1 (textOf d.name) (d.name::d.aliases)) (E1++[(r',d)]) P)
theorem qo{w:World}{b n e p:Nat}{re:ByteArray}{s:Int}{N:List (ByteArray×Value)}{E:List EE}{P:List ah}(h:bT w b n e p re s N E P):∀k,w.heap.size≤k→¬aX b n e p k:=fun k hk hd=>by
 have q1:=(Array.getElem?_eq_some_iff.1 h.box).1
 have q2:=h.nm.lt
 have q3:=h.em.lt
 have q4:=h.pm.lt
 rcases hd with rfl|rfl|rfl|rfl<;>omega
theorem Bq{w W V:World}{b n e p:Nat}{re:ByteArray}{s:Int}{N:List (ByteArray×Value)}{E:List EE}{P:List ah}{r:aI}{d:Entry}(hb:Below W.heap.size W V)(ht:W.heap[w.heap.size]?=some (.cells #[.pointer (some ⟨b,0,none⟩)] 40))(iK:W.heap[w.heap.size+1]?=some (.cells (ae r d) 32))(hr4:W.heap[w.heap.size+1+1]?=some (.cells #[.int .i64 0] 65))(h':bT W b n e p re s N E P) :
  V.heap[w.heap.size]?=some (.cells #[.pointer (some ⟨b,0,none⟩)] 40)∧V.heap[w.heap.size+1]?=some (.cells (ae r d) 32)∧V.heap[w.heap.size+1+1]?=some (.cells #[.int .i64 0] 65)∧bT V b n e p re s N E P∧w.heap.size<V.heap.size∧w.heap.size+1<V.heap.size∧w.heap.size+1+1<V.heap.size∧(V.cell? ⟨b,0,none⟩=some (.string re)∧V.cell? ⟨b,1,none⟩=some (.int .i64 s)∧V.cell? ⟨b,2,none⟩=some (.map (some n))∧V.cell? ⟨b,3,none⟩=some (.map (some e))∧V.cell? ⟨b,4,none⟩=some (.map (some p))∧V.frozen? ⟨b,1,none⟩=false∧b<V.heap.size)∧row? V (w.heap.size+1) 0 17=some (ae r d)∧row? V (w.heap.size+1) 0 2=some (ak r.parts d.name)∧(∀o,V.cell? ⟨w.heap.size+1,o,none⟩=(ae r d)[o]?)∧V.cell? ⟨w.heap.size,0,none⟩=some (.pointer (some ⟨b,0,none⟩))∧V.cell? ⟨w.heap.size+1+1,0,none⟩=some (.int .i64 0)∧V.frozen? ⟨w.heap.size+1+1,0,none⟩=false:=
 have t:=aA hb ht
 have e:=aA hb iK
 have r:=aA hb hr4
 have h:=h'.later hb
 have q:row? V (w.heap.size+1) 0 17=some _:=by rw[bV e];exact dH (by simp[go_sem])
 ⟨t,e,r,h,(ai t).2.2.2,(ai e).2.2.2,(ai r).2.2.2,fH h.box,q,vJ q,(ai e).1,(ai t).1 0,(ai r).1 0,(ai r).2.1 0⟩
theorem aiv(b n e p:Nat)(re:ByteArray)(s:Int)(NL:List (ByteArray×ByteArray))(N1:List (ByteArray×Value))(E E1:List EE)(P:List ah)(r:aI)(d:Entry)(w:World)(h:bT w b n e p re s (gQ NL) E P)(hre:¬re=⟨#[]⟩)(he:bz w r d)(hE:∀x∈E,lC (aX b n e p) w x∧Bo x.2)(hR:uw (gQ NL) E (textOf d.name) N1 E1)(hok:Bo d)(hv:bF d=true)(hrl:d.name.aG=re)(zl:d.aK=⟨#[]⟩∨P.any (fun x=>decide (x.name=d.aK))=true)(hkeys:∀k o o',(k,o)∈NL→(k,o')∈NL→o=o')(hEl:E.length<4096)(hs0:0≤s)(hs1:s<1000000) :
  Calls Tryz.prog 18 #[.pointer (some ⟨b,0,none⟩),.agg (ae r d)] w (Xo b n e p re s NL N1 E1 P d w):=by
 have Xn:=str_eq _ _ hrl
 obtain⟨q0,Xp,hlp,Xq⟩:=ais P d.aK
 obtain⟨r0,d0,ok,hle⟩:=air E (textOf d.name)
 have HLE:=Lib.hid hle
 have HLP:=Lib.hid hlp
 have IX:=Lib.hid Xq
 clear hle hlp Xq
 obtain⟨hB,ht,iK,hr4,hsz⟩:=IW w b r d
 refine(callsIn_wide (n:=0)).1 ?_
 refine callsIn_of_wp_marks Tryz.func18 rfl trivial ?_ rfl
 simp only[Tryz.ntmps18,List.size_toArray,List.length_cons,List.length_nil,Nat.reduceAdd,Nat.reduceSub,Array.replicate_succ,Array.replicate_zero,List.push_toArray,List.append_toArray,List.nil_append,List.cons_append]
 gi_wp2
 have he':=he.later hB
 have h':=h.later hB
 unfold uz at hB ht iK hr4 hsz he' h'
 generalize ((w.alloc (.cells #[.pointer (some ⟨b,0,none⟩)] 40)).alloc (.cells (ae r d) 32)).alloc (.cells #[.int .i64 0] 65)=W at *
 clear hsz
 obtain⟨aq4,aq5,aq6,h_W,l0,l1,l2,⟨c0,c1',c2,c3,c4,f1,hl⟩,lX,hrn,jJ,hct,hc4,hf4⟩:=Bq (Below.refl _ W) ht iK hr4 h'
 refine⟨trivial,rfl,(callsIn_wide.2 (lq _ _ _ c0 hre)).mono ?_⟩
 rintro x w' ⟨rfl,rfl⟩
 dsimp only
 gi_wp2
 refine(wpIn_wide (n:=0)).2 ?_
 refine xh (Below.refl _ W) (by kernel_rfl) (by kernel_rfl) ?_
 intro w1 hb1
 iterate 1 (refine aN (by kernel_rfl) (by kernel_rfl) (fun K hK=>?_);go_big_quiet_op;refine hK _ ?_;clear hK K)
 refine aS (by rfl) (by rfl) (fun K hK=>?_)
 go_wp2_with fail
 refine(Iz r d w1 (he'.later hb1)).mono ?_
 rintro q w2 ⟨rfl,hb2⟩
 rw[hv]
 dsimp only
 have hb2':=ag hb1 hb2
 refine hK _ _ (dC hb2') ?_
 clear hK K
 iterate 12 (refine aN (by kernel_rfl) (by kernel_rfl) (fun K hK=>?_);go_big_quiet_op;refine hK _ ?_;clear hK K)
 refine bW ?_
 clear c0 c1' c2 c3 c4 f1 hl lX hrn jJ hct hc4 hf4 l0 l1 l2
 obtain⟨aq8,aq9,ara,Xr,l0,l1,l2,⟨c0,c1',c2,c3,c4,f1,hl⟩,lX,hrn,jJ,hct,hc4,hf4⟩:=Bq hb2' ht iK hr4 h'
 have hlk:∀x:Later w2,(Instr.lookup 87 (.map (some p)) (.string d.aK) true).run Tryz.prog x.w=.ok (.tuple #[.agg (az q0),.bool Xp]) x.w:=fun x=>HLP.out _ _ (Xr.pm.at (x.b.block p Xr.pm.lt))
 gi_wp2
 refine(wpIn_wide (n:=0)).2 ?_
 refine xh (Below.refl _ w2) (by kernel_rfl) (by kernel_rfl) ?_
 intro wq hbq
 iterate 11 (refine aN (by kernel_rfl) (by kernel_rfl) (fun K hK=>?_);go_big_quiet_op;refine hK _ ?_;clear hK K)
 refine aS (by rfl) (by rfl) (fun K hK=>?_)
 go_wp2_with fail
 refine hK _ _ (dC (aC hbq _)) ?_
 clear hK K
 refine aS (by rfl) (by rfl) (fun K hK=>?_)
 go_wp2_with fail
 refine hK _ _ (dC (aC hbq (.cells (az q0) 35))) ?_
 clear hK K
 iterate 1 (refine aN (by kernel_rfl) (by kernel_rfl) (fun K hK=>?_);go_big_quiet_op;refine hK _ ?_;clear hK K)
 refine bW ?_
 have hb4:=ag hb2' (aC hbq (.cells (az q0) 35))
 clear hbq hlk
 generalize (wq.alloc (.cells (az q0) 35))=V at *
 clear c0 c1' c2 c3 c4 f1 hl lX hrn jJ hct hc4 hf4 l0 l1 l2
 obtain⟨arb,arc,ard,h_V,l0,l1,l2,⟨c0,c1',c2,c3,c4,f1,hl⟩,lX,hrn,jJ,hct,hc4,hf4⟩:=Bq hb4 ht iK hr4 h'
 cases Xp
 case' false=>
  have hpe:d.aK=⟨#[]⟩:=by
   rcases zl with h|h
   ·exact h
   ·rw[←IX.out]at h;cases h
  have hpc:V.cell? ⟨w.heap.size+1,6,none⟩=some (.string ⟨#[]⟩):=by rw[jJ 6,LG,hpe]
  clear jJ
  have jJ:True:=trivial
  gi_wp2
 case' true=>gi_wp2
 all_goals
  refine⟨trivial,rfl,(callsIn_wide.2 (NR _ _ _ (he'.later hb4))).mono ?_⟩
  rintro q w3 ⟨bN,sN,X,rfl,hb3,hbN,Ez,hX,hd⟩
  have Om:=ag hb4 hb3
  have hB3:=ag hB Om
  have arh:=hb3.size
  have Oo:w.heap.size+1+1<V.heap.size:=l2
  dsimp only
  gi_wp2
  refine(wpIn_wide (n:=0)).2 ?_
  refine vg (gf:=109) (lb:=#[.pointer (some ⟨bN,0,none⟩)]) (by simp[go_sem]) (enters_of Tryz.func109 (by kernel_rfl) rfl) (S:=one (w.heap.size+1+1)) ?_ (xs:=X) (V:=VN) ?_ (NT bN sN X (one (w.heap.size+1+1)) w3 Ez ?_ ?_)
   (fun c1 k Wc=>But (fun _=>False) w3 Wc∧uy NL (textOf d.name) ((X.map (·.2)).take k)∧w3.heap.size<c1) (fun c c1 _ Wc=>c=.ret∧IV NL d∧But (one (w.heap.size+1+1)) w3 Wc∧Wc.heap[w.heap.size+1+1]?=some (.cells #[.int .i64 11] 65)∧w3.heap.size<c1) ?_ ?_ ?_ ?_ ?_ ?_
  ·rintro k (rfl:k=_);omega
  ·rintro c1 xx v W0 Wc ⟨s',rfl,_⟩;rfl
  ·rintro k (rfl:k=_);omega
  ·intro y hy
   exact hd y fun k hk=>hy.block k hk.2 fun hk'=>by
    rcases hk' with(e:k=_)|e
    ·have:=hk.1;omega
    ·have:=hk.2;omega
  ·intro c1 Wc h1 h2 hb
   exact⟨But.of_below hb,by simp[uy],h1⟩
  ·rintro c1 k Wc lh ⟨h1,h2,h4⟩ hb
   exact⟨h1.past hb (fun j hj=>hj.1),h2,h4⟩
  ·rintro c c1 k Wc lh ⟨h1,h2,h3,h4,h5⟩ hb
   exact⟨h1,h2,h3.past hb (fun j hj=>hj.1),(hb.block _ (Array.getElem?_eq_some_iff.1 h4).1 (fun hj=>by have:=hj.1;omega)).trans h4,h5⟩
  ·rintro c1 k xx v W0 Wc hxx ⟨s',rfl,hp⟩ ⟨iD,hfr,hc0⟩ hbs hc1 mZ
   have hsW:=hbs.size
   have hc2:c1≤Wc.heap.size:=Nat.le_trans mZ hsW
   have hbu:But (fun _=>False) w3 Wc:=iD.past hbs (fun j hj=>hj.1)
   clear iD hbs
   obtain⟨s0,q⟩:=xx
   have hqm:(X.map (·.2))[k]?=some q:=by rw[List.getElem?_map,hxx];rfl
   have xK:q∈d.name::d.aliases:=by rw[←hX];exact List.mem_of_getElem? hqm
   have Bl:bD q=true:=hok q xK
   have HP:=Lib.hid hp
   have Xt:=Lib.hid hfr
   clear hp hfr
   dsimp only
   gi_wp2
   have hal:Below Wc.heap.size Wc (Wc.alloc (.cells (ak s' q) 25)):=(Below.refl _ _).alloc (Nat.le_refl _) _
   refine⟨hal,fun U hU=>?_⟩
   have lU:U.heap[Wc.heap.size]?=some (.cells (ak s' q) 25):=(hU.block _ (by simp) (aT (by omega))).trans (World.alloc_heap_new _ _)
   have qi:Wc.heap.size<U.heap.size:=(Array.getElem?_eq_some_iff.1 lU).1
   have dU:But (fun _=>False) w3 U:=(hbu.trans (But.of_below hal)).past hU (fun j hj=>by have:j=_:=hj;omega)
   have Xu:Below w3.heap.size w3 U:=dU.below (Nat.le_refl _) (fun _ hf=>hf.elim)
   have qh:bg U s' q:=HP.out U fun j hj=>(hU.block j (by have:=hj.2;simp;omega) (aT (by have:=hj.1;omega))).trans (hal.block j hj.2)
   have Xv:=ag Om Xu
   have jB:row? U Wc.heap.size 0 2=some (ak s' q):=by rw[bV lU];exact dH (by simp[go_sem])
   clear hal hU hbu HP
   clear c0 c1' c2 c3 c4 f1 hl lX hrn jJ hct hc4 hf4 l0 l1 l2
   obtain⟨ari,Xw,aiy,ED,l0,l1,l2,⟨c0,c1',c2,c3,c4,f1,hl⟩,lX,hrn,jJ,hct,hc4,hf4⟩:=Bq Xv ht iK hr4 h'
   have Oj:bg U r.parts d.name:=(he'.later Xv).name
   have arj:=ED.nm
   by_cases hin:∃o,(textOf q,o)∈NL
   ·obtain⟨o,ho⟩:=hin
    have hlk:∀x:qO (fun _=>False) U,(Instr.lookup 85 (.map (some n)) (.string (textOf q)) true).run Tryz.prog x.w=.ok (.tuple #[.string o,.bool true]) x.w:=fun x=>aip (ED.nm.at (x.b.block n ED.nm.lt (fun hf=>hf))) ho
    gi_wp2
    refine TI.xm (fun _=>False) (But.refl _ U) (by kernel_rfl) (by kernel_rfl) (by kernel_rfl) ?_
    repeat (first|(refine TI.aP (by rfl) ?_)|(refine TI.gI (by rfl) (by rfl) (fun K hK=>?_);go_big_quiet_op;refine hK _ ?_;clear hK K))
    refine TI.jg (by rfl) (by rfl) (by rfl) (fun K hK=>?_)
    go_wp2_with fail
    refine(rH _ _ U.drew (qh.later (Below.refl _ _).drew) Bl).mono ?_
    rintro z U2 ⟨rfl,hbk⟩
    dsimp only
    have hbb:Below U.heap.size U U2:=(Below.refl _ U).drew.trans hbk
    refine hK _ _ (bI (But.of_below hbb)) ?_
    clear hK K
    repeat (first|(refine TI.aP (by rfl) ?_)|(refine TI.gI (by rfl) (by rfl) (fun K hK=>?_);go_big_quiet_op;refine hK _ ?_;clear hK K))
    refine TI.bW ?_
    have EF:=aA hbb Xw
    have aiz:row? U2 (w.heap.size+1) 0 2=some (ak r.parts d.name):=vJ (d:=d) (by rw[bV EF];exact dH (by simp[go_sem]))
    have l12:w.heap.size+1<U2.heap.size:=(Array.getElem?_eq_some_iff.1 EF).1
    gi_wp2
    refine⟨trivial,rfl,CallsIn.mono (F:=Fence.wide.inRound (w3.heap.size+1)) (callsIn_wide.2 (rH _ _ U2 (Oj.later hbb) (hok _ (by simp)))) ?_⟩
    rintro z U3 ⟨rfl,IY⟩
    dsimp only
    have EG:=ag hbb IY
    have hr3:=aA EG aiy
    have ark:U3.cell? ⟨w.heap.size+1+1,0,none⟩=some (.int .i64 0):=(ai hr3).1 0
    have arl:U3.frozen? ⟨w.heap.size+1+1,0,none⟩=false:=(ai hr3).2.1 0
    have l23:w.heap.size+1+1<U3.heap.size:=(Array.getElem?_eq_some_iff.1 hr3).1
    by_cases hoe:o=textOf d.name
    ·have aiA:=str_eq _ _ hoe
     gi_wp2
     refine⟨But.of_below EG,dU.trans (But.of_below EG),?_,by omega⟩
     rw[←hX,take_snoc hqm]
     exact Xh Xt.out (fun o' ho'=>by rw[hkeys _ _ _ ho' ho];exact hoe)
    ·have aiA:=kD _ _ hoe
     gi_wp2
     have hset:=cZ (o:=0) (.int .i64 11) hr3
     have hbx:But (one (w.heap.size+1+1)) U3 (U3.setCell ⟨w.heap.size+1+1,0,none⟩ (.int .i64 11)):=⟨rfl,rfl,rfl,by simp[World.setCell],fun k _ hn'=>Below.heap_setCell _ _ _ _ hn'⟩
     exact⟨((But.of_below EG).trans hbx).mono fun _ h=>.inl h,rfl,⟨q,xK,o,ho,hoe⟩,((But.of_below Xu).trans (But.of_below EG)).trans hbx,hset,by omega⟩
   ·have hno:∀o,(textOf q,o)∉NL:=fun o ho=>hin ⟨o,ho⟩
    have hlk:∀x:qO (fun _=>False) U,(Instr.lookup 85 (.map (some n)) (.string (textOf q)) true).run Tryz.prog x.w=.ok (.tuple #[.string ⟨#[]⟩,.bool false]) x.w:=fun x=>aiq (ED.nm.at (x.b.block n ED.nm.lt (fun hf=>hf))) hno
    gi_wp2
    refine TI.xm (fun _=>False) (But.refl _ U) (by kernel_rfl) (by kernel_rfl) (by kernel_rfl) ?_
    repeat (first|(refine TI.aP (by rfl) ?_)|(refine TI.gI (by rfl) (by rfl) (fun K hK=>?_);go_big_quiet_op;refine hK _ ?_;clear hK K))
    refine TI.jg (by rfl) (by rfl) (by rfl) (fun K hK=>?_)
    go_wp2_with fail
    refine(rH _ _ U.drew (qh.later (Below.refl _ _).drew) Bl).mono ?_
    rintro z U2 ⟨rfl,hbk⟩
    dsimp only
    have hbb:Below U.heap.size U U2:=(Below.refl _ U).drew.trans hbk
    refine hK _ _ (bI (But.of_below hbb)) ?_
    clear hK K
    repeat (first|(refine TI.aP (by rfl) ?_)|(refine TI.gI (by rfl) (by rfl) (fun K hK=>?_);go_big_quiet_op;refine hK _ ?_;clear hK K))
    refine TI.bW ?_
    have EF:=aA hbb Xw
    have aiz:row? U2 (w.heap.size+1) 0 2=some (ak r.parts d.name):=vJ (d:=d) (by rw[bV EF];exact dH (by simp[go_sem]))
    have l12:w.heap.size+1<U2.heap.size:=(Array.getElem?_eq_some_iff.1 EF).1
    gi_wp2
    refine⟨trivial,?_⟩
    gi_wp2
    refine⟨But.of_below hbb,dU.trans (But.of_below hbb),?_,by omega⟩
    rw[←hX,take_snoc hqm]
    exact Xh Xt.out (fun o' ho'=>absurd ho' (hno o'))
  ·rintro c1 Wc ⟨hbu,hfree,hc0⟩ hD
   rw[List.take_of_length_le (by simp),hX]at hfree
   have hbc:Below w3.heap.size w3 Wc:=hbu.below (Nat.le_refl _) (fun _ hf=>hf.elim)
   have IZ:=ag Om hbc
   clear c0 c1' c2 c3 c4 f1 hl lX hrn jJ hct hc4 hf4 l0 l1 l2
   obtain⟨aro,arp,arq,Xx,l0,l1,l2,⟨c0,c1',c2,c3,c4,f1,hl⟩,lX,hrn,jJ,hct,hc4,hf4⟩:=Bq IZ ht iK hr4 h'
   have hlk:∀x:Later Wc,(Instr.lookup 86 (.map (some e)) (.string (textOf d.name)) true).run Tryz.prog x.w=.ok (.tuple #[.agg (ae r0 d0),.bool ok]) x.w:=fun x=>HLE.out _ _ (Xx.em.at (x.b.block e Xx.em.lt))
   have Xy:bg Wc r.parts d.name:=(he'.later IZ).name
   gi_wp2
   refine(wpIn_wide (n:=0)).2 ?_
   refine EC 12 7 [0,1,2,3,4,5,6,12,7,8,9,10,11,13,14] (Below.refl _ Wc) (by kernel_rfl) (by kernel_rfl) (by rfl) ?_ ?_
   intro v1 hv1
   iterate 7 (refine aN (by kernel_rfl) (by kernel_rfl) (fun K hK=>?_);go_big_quiet_op;refine hK _ ?_;clear hK K)
   refine aS (by rfl) (by rfl) (fun K hK=>?_)
   go_wp2_with fail
   refine(rH _ _ v1 (Xy.later hv1) (hok _ (by simp))).mono ?_
   rintro z v2 ⟨rfl,hv2⟩
   dsimp only
   have dm:=ag hv1 hv2
   refine hK _ _ (dC dm) ?_
   clear hK K
   iterate 4 (refine aN (by kernel_rfl) (by kernel_rfl) (fun K hK=>?_);go_big_quiet_op;refine hK _ ?_;clear hK K)
   refine aS (by rfl) (by rfl) (fun K hK=>?_)
   go_wp2_with fail
   refine hK _ _ (dC (aC dm _)) ?_
   clear hK K
   refine aS (by rfl) (by rfl) (fun K hK=>?_)
   go_wp2_with fail
   refine hK _ _ (dC (aC dm (.cells (ae r0 d0) 32))) ?_
   clear hK K
   iterate 1 (refine aN (by kernel_rfl) (by kernel_rfl) (fun K hK=>?_);go_big_quiet_op;refine hK _ ?_;clear hK K)
   refine bW ?_
   have fC:=aC dm (.cells (ae r0 d0) 32)
   clear hlk hv1 hv2 dm
   generalize (v2.alloc (.cells (ae r0 d0) 32))=V5 at *
   have I4:=ag IZ fC
   have o9:=ag hB I4
   clear c0 c1' c2 c3 c4 f1 hl lX hrn jJ hct hc4 hf4 l0 l1 l2
   rotate_left
   intro v1 hv1
   simp only[pick,List.getElem?_cons_zero,List.getElem?_cons_succ]
   iterate 7 (refine aN (by kernel_rfl) (by kernel_rfl) (fun K hK=>?_);go_big_quiet_op;refine hK _ ?_;clear hK K)
   refine aS (by rfl) (by rfl) (fun K hK=>?_)
   go_wp2_with fail
   refine hK _ _ (dC (aC hv1 _)) ?_
   clear hK K
   rw[←Bh]
   have hz1:=World.alloc_heap_new v1 (.cells (ae eX ed) 32)
   have iL:=aC hv1 (.cells (ae eX ed) 32)
   generalize v1.alloc (.cells (ae eX ed) 32)=Z at *
   refine aS (by rfl) (by rfl) (fun K hK=>?_)
   go_wp2_with fail
   refine(rH _ _ _ (Xy.later iL) (hok _ (by simp))).mono ?_
   rintro z v2 ⟨rfl,hv2⟩
   dsimp only
   have dm:=ag iL hv2
   refine hK _ _ (dC dm) ?_
   clear hK K
   have hz2:=aA hv2 hz1
   have hcp:aJ v2 v1.heap.size 0 17=true:=nO hz2 (by simp[go_sem])
   have fC:=Go.WW.Below.putRow (o:=0) (cs:=ae r0 d0) dm hv1.size
   iterate 4 (refine aN (by kernel_rfl) (by kernel_rfl) (fun K hK=>?_);go_big_quiet_op;refine hK _ ?_;clear hK K)
   refine aS (by rfl) (by rfl) (fun K hK=>?_)
   go_wp2_with fail
   refine hK _ _ (dC fC) ?_
   clear hK K
   iterate 1 (refine aN (by kernel_rfl) (by kernel_rfl) (fun K hK=>?_);go_big_quiet_op;refine hK _ ?_;clear hK K)
   refine bW ?_
   clear hlk hv2 dm hz1 hz2 hcp iL
   generalize (putRow v2 v1.heap.size 0 (ae r0 d0))=V5 at *
   have I4:=ag IZ fC
   have o9:=ag hB I4
   clear c0 c1' c2 c3 c4 f1 hl lX hrn jJ hct hc4 hf4 l0 l1 l2
   all_goals
    obtain⟨aiB,ars,aiC,aiD,l0,l1,l2,⟨c0,c1',c2,c3,c4,f1,hl⟩,lX,hrn,jJ,hct,hc4,hf4⟩:=Bq I4 ht iK hr4 h'
    have hD5:V5.heap[w3.heap.size]?=some (.deferred (some [])):=aA fC hD
    have hln:=Xa (P:=Tryz.prog) (ty:=3) (tY:=#[86]) rfl Tryz.underlying86 aiD.em
    rw[List.length_map]at hln
    have art:¬(4096:Int)≤(E.length:Int):=by omega
    have n0:=qo h w.heap.size (Nat.le_refl _)
    have n1:=qo h (w.heap.size+1) (by omega)
    have n2:=qo h (w.heap.size+1+1) (by omega)
    have n3:=qo h w3.heap.size (by have:=hB3.size;omega)
    cases ok
    all_goals
     gi_wp2
     refine(wpIn_wide (n:=0)).2 ?_
     refine oP (aX b n e p) (But.refl _ V5) (by kernel_rfl) (by kernel_rfl) ?_
     iterate 4 (refine aN (by kernel_rfl) (by kernel_rfl) (fun K hK=>?_);go_big_quiet_op;refine hK _ ?_;clear hK K)
     refine aS (by rfl) (by rfl) (fun K hK=>?_)
     go_wp2_with fail
     refine(afM r d V5.drew ((he.later o9).later (Below.refl _ _).drew)).mono ?_
     rintro q V6 ⟨r',rfl,hb6,hd6⟩
     dsimp only
     have uA:Below V5.heap.size V5 V6:=(Below.refl _ V5).drew.trans hb6
     refine hK _ _ (bI (But.of_below uA)) ?_
     clear hK K
     refine aS (by rfl) (by rfl) (fun K hK=>?_)
     go_wp2_with fail
     have rU:=ag o9 uA
     have hkv:∀y,But (fun k=>k<V5.heap.size) V6 y→bz y r' d:=fun y hy=>hd6 y fun k hk=>hy.block k hk.2 (fun hk'=>by have h1:V5.drew.heap.size≤k:=hk.1;have h2:V5.drew.heap.size=V5.heap.size:=rfl;omega)
     have hdv:∀k,aX b n e p k→k<V5.heap.size:=fun k hk=>Nat.lt_of_not_le fun hge=>qo h k (Nat.le_trans o9.size hge) hk
     have hke:lC (aX b n e p) V6 (r',d):=fun y hy=>hkv y (hy.mono hdv)
     refine(aij b n e p re s (gQ NL) N1 E E1 P r' d V6 (h.later rU) (fun x hx=>⟨(hE x hx).1.on (But.of_below rU),(hE x hx).2⟩) hR hke hok).mono ?_
     rintro q V7 ⟨rfl,hb7,h7⟩
     dsimp only
     have lY:But (aX b n e p) V5 V7:=(But.of_below uA).trans hb7
     refine hK _ _ (bI lY) ?_
     clear hK K
     refine bW ?_
     have aiE:But (fun k=>k<V5.heap.size) V6 V7:=hb7.mono hdv
     have aru:w.heap.size+1+1<V5.heap.size:=l2
     have arv:w3.heap.size<V5.heap.size:=(Array.getElem?_eq_some_iff.1 hD5).1
     have Oq:=(lY.block _ l0 n0).trans aiB
     have EH:=(lY.block _ l2 n2).trans aiC
     have hD7:=(lY.block _ (Array.getElem?_eq_some_iff.1 hD5).1 n3).trans hD5
     have oq:But (aX b n e p) w V7:=(But.of_below o9).trans lY
     clear c0 c1' c2 c3 c4 f1 hl lX hrn jJ hct hc4 hf4 l0 l1 l2 hln
     obtain⟨c0,c1,c2,c3,c4,f1,hl⟩:=fH h7.box
     have l0:w.heap.size<V7.heap.size:=(Array.getElem?_eq_some_iff.1 Oq).1
     have hct:V7.cell? ⟨w.heap.size,0,none⟩=some (.pointer (some ⟨b,0,none⟩)):=(ai Oq).1 0
     gi_wp2
     refine⟨trivial,rfl,(callsIn_wide.2 (zg b s V7 c1 f1 hs0 hs1)).mono ?_⟩
     rintro q w' ⟨rfl,rfl⟩
     dsimp only
     have hbw:b<w.heap.size:=(Array.getElem?_eq_some_iff.1 h.box).1
     have nz:=cZ (o:=1) (.int .i64 (s+1)) h7.box
     rw[zf]at nz
     have hoth:∀k,k≠b→(V7.setCell ⟨b,1,none⟩ (.int .i64 (s+1))).heap[k]?=V7.heap[k]?:=fun k hk=>Below.heap_setCell _ _ _ _ hk
     have EI:(V7.setCell ⟨b,1,none⟩ (.int .i64 (s+1))).heap.size=V7.heap.size:=by simp[World.setCell]
     have uB:=(hoth _ (by omega)).trans EH
     have hD8:=(hoth w3.heap.size (by have:=hB3.size;omega)).trans hD7
     have hc8:(V7.setCell ⟨b,1,none⟩ (.int .i64 (s+1))).cell? ⟨w.heap.size+1+1,0,none⟩=some (.int .i64 0):=(ai uB).1 0
     have I5:(V7.setCell ⟨b,1,none⟩ (.int .i64 (s+1))).frozen? ⟨w.heap.size+1+1,0,none⟩=false:=(ai uB).2.1 0
     have l8:w.heap.size+1+1<(V7.setCell ⟨b,1,none⟩ (.int .i64 (s+1))).heap.size:=(Array.getElem?_eq_some_iff.1 uB).1
     have vS:But (aX b n e p) w (V7.setCell ⟨b,1,none⟩ (.int .i64 (s+1))):=⟨oq.os,oq.tape,oq.output,by rw[EI];exact oq.size,fun k hk hn'=>(hoth k (fun e'=>hn' (.inl e'))).trans (oq.block k hk hn')⟩
     have hnb:n≠b:=fun e'=>gu h7.box h7.nm e'.symm
     have heb:e≠b:=fun e'=>gu h7.box h7.em e'.symm
     have hpb:p≠b:=fun e'=>gu h7.box h7.pm e'.symm
     have h8:bT (V7.setCell ⟨b,1,none⟩ (.int .i64 (s+1))) b n e p re (s+1) (rQ N1 (textOf d.name) (d.name::d.aliases)) (E1++[(r',d)]) P:=⟨nz,h7.nm.at (hoth n hnb),h7.em.at (hoth e heb),h7.pm.at (hoth p hpb),h.ne⟩
     have aiG:But (fun k=>k<V5.heap.size) V6 (V7.setCell ⟨b,1,none⟩ (.int .i64 (s+1))):=aiE.trans ⟨rfl,rfl,rfl,by rw[EI];exact Nat.le_refl _,fun k _ hn'=>hoth k (fun e'=>hn' (hdv k (.inl e')))⟩
     clear nz hoth EI c0 c1 c2 c3 c4 f1 hl hct l0 EH hD7 Oq
     generalize V7.setCell ⟨b,1,none⟩ (.int .i64 (s+1))=V8 at *
     gi_wp2
     have hw3:=hB3.size
     have aiH:=cZ (o:=0) (.int .i64 0) uB
     have hD9:(V8.setCell ⟨w.heap.size+1+1,0,none⟩ (.int .i64 0)).heap[w3.heap.size]?=some (.deferred (some [])):=(Below.heap_setCell _ _ _ _ (show w3.heap.size≠w.heap.size+1+1 by omega)).trans hD8
     refine⟨by simp,.inl ⟨_,_,rfl,run_takeDeferred hD9,?_⟩⟩
     have Xz:∀k,k≠w.heap.size+1+1→k≠w3.heap.size→((V8.setCell ⟨w.heap.size+1+1,0,none⟩ (.int .i64 0)).putObj w3.heap.size (.deferred none)).heap[k]?=V8.heap[k]?:=fun k h1 h2=>(World.putObj_heap_other h2).trans (Below.heap_setCell _ _ _ _ h1)
     have aiJ:V8.heap.size≤((V8.setCell ⟨w.heap.size+1+1,0,none⟩ (.int .i64 0)).putObj w3.heap.size (.deferred none)).heap.size:=by simp[World.setCell,World.putObj]
     have lu:((V8.setCell ⟨w.heap.size+1+1,0,none⟩ (.int .i64 0)).putObj w3.heap.size (.deferred none)).cell? ⟨w.heap.size+1+1,0,none⟩=some (.int .i64 0):=(ai ((World.putObj_heap_other (show w.heap.size+1+1≠w3.heap.size by omega)).trans aiH)).1 0
     have I7:But (fun k=>k=w.heap.size+1+1∨k=w3.heap.size) V8 ((V8.setCell ⟨w.heap.size+1+1,0,none⟩ (.int .i64 0)).putObj w3.heap.size (.deferred none)):=⟨rfl,rfl,rfl,aiJ,fun k _ hn'=>Xz k (fun e'=>hn' (.inl e')) (fun e'=>hn' (.inr e'))⟩
     refine⟨.int .i64 0,by simp[results,Tryz.f18,go_sem,lu],.inr ⟨rfl,hfree,vS.past I7 (fun k hk=>by rcases hk with rfl|rfl<;>omega),r',fun y hy=>hkv y ((aiG.trans (I7.mono fun k hk=>by rcases hk with rfl|rfl<;>assumption)).trans (hy.mono fun k hk=>Nat.lt_of_lt_of_le hk o9.size)),?_⟩⟩
     have XA:∀k,aX b n e p k→k<w.heap.size:=fun k hk=>Nat.lt_of_not_le fun hge=>qo h k hge hk
     have hk9:∀k,aX b n e p k→((V8.setCell ⟨w.heap.size+1+1,0,none⟩ (.int .i64 0)).putObj w3.heap.size (.deferred none)).heap[k]?=V8.heap[k]?:=fun k hk=>Xz k (by have:=XA k hk;omega) (by have:=XA k hk;omega)
     exact⟨(hk9 b (.inl rfl)).trans h8.box,h8.nm.at (hk9 n (.inr (.inl rfl))),h8.em.at (hk9 e (.inr (.inr (.inl rfl)))),h8.pm.at (hk9 p (.inr (.inr (.inr rfl)))),h.ne⟩
  ·rintro c c1 k Wc ⟨rfl,hbz,hbu,h11,hc0⟩ hD
   refine(wpIn_wide (n:=0)).1 ?_
   gi_wp2
   refine⟨by simp,.inl ⟨_,_,rfl,run_takeDeferred hD,?_⟩⟩
   have lu:(Wc.putObj w3.heap.size (.deferred none)).cell? ⟨w.heap.size+1+1,0,none⟩=some (.int .i64 11):=(ai ((World.putObj_heap_other (show w.heap.size+1+1≠w3.heap.size by omega)).trans h11)).1 0
   have I7:But (one w3.heap.size) Wc (Wc.putObj w3.heap.size (.deferred none)):=But.putObj _
   refine⟨.int .i64 11,by simp[results,Tryz.f18,go_sem,lu],.inl ⟨rfl,hbz,?_⟩⟩
   have hall:But (fun k=>w.heap.size≤k) w (Wc.putObj w3.heap.size (.deferred none)):=((But.of_below hB3).trans (hbu.mono fun k (hk:k=_)=>by omega)).trans (I7.mono fun k (hk:k=_)=>by omega)
   exact hall.below (Nat.le_refl _) (fun _ hk=>hk)
end Go.Proofs.YtaghcadlgbnbdaaGreatDoor
namespace Go.Proofs.YtaghcadlgbnbdaaGreatDoor
open Go.RowKit Go.WW
attribute [local irreducible] aF
def arw(b n e p:Nat)(re:ByteArray)(s:Int)(E:List EE)(P:List ah)(w:World)(z:Ending)(w':World):Prop:=
 ∃(c s':Int) (N':List (ByteArray×Value)) (E':List EE),z=.returned (.int .i64 c)∧But (aX b n e p) w w'∧bT w' b n e p re s' N' E' P∧(∀x∈E',x∈E)∧0≤s'∧s'≤s+1
theorem aiK{N N1:List (ByteArray×Value)}{E E1:List EE}{k:ByteArray}(h:uw N E k N1 E1):∀x∈E1,x∈E:=by
 rcases h with⟨x,hx,rfl,rfl,rfl⟩|⟨h,rfl,rfl⟩
 ·intro y hy;exact(List.mem_filter.1 hy).1
 ·exact fun x hx=>hx
end Go.Proofs.YtaghcadlgbnbdaaGreatDoor
namespace Go.WW
open Go.RowKit
def qw(a b:ByteArray):Bool:=Op.bytesLess a.toList b.toList || (a.toList == b.toList)
def dY(p:ah)(at_:Int):Nat→Bool→List ah→List ah
 |_,dn,[]=>if dn then []else [p]
 |k,dn,q::l=>(if !dn&&qw p.name q.name then [p]else [])++((if(k:Int) != at_ then [q]else [])++dY p at_ (k+1) (dn || qw p.name q.name) l)
def zn(p:ah)(at_:Int)(L R:List ah)(k:Nat)(dn:Bool):Prop:=dY p at_ 0 false L=R++dY p at_ k dn (L.drop k)
theorem aiL(p:ah)(at_:Int)(L:List ah):zn p at_ L [] 0 false:=rfl
theorem aiM{p:ah}{at_:Int}{L R:List ah}{k:Nat}{dn:Bool}(h:zn p at_ L R k dn)(hk:k<L.length) :
  zn p at_ L (R++(if !dn&&qw p.name L[k].name then [p]else [])++(if(k:Int) != at_ then [L[k]]else [])) (k+1) (dn || qw p.name L[k].name):=by
 unfold zn at *
 rw[h,List.drop_eq_getElem_cons hk]
 simp[dY,List.append_assoc]
theorem aiN{p:ah}{at_:Int}{L R:List ah}{k:Nat}{dn:Bool}(h:zn p at_ L R k dn)(hk:L.length≤k):dY p at_ 0 false L=R++(if dn then []else [p]):=by
 unfold zn at h;rw[h,List.drop_of_length_le hk];rfl
theorem Ot(p:ah)(at_:Int):∀(l:List ah) (k:Nat),(dY p at_ k true l).length≤l.length
 | [],_=>by simp[dY]
 |q::l,k=>by
  have ih:=Ot p at_ l (k+1)
  unfold dY
  simp only[Bool.not_true,Bool.false_and,Bool.true_or,Bool.false_eq_true,if_false,List.nil_append,List.length_append,List.length_cons]
  split<;>simp<;>omega
theorem I8(p:ah)(at_:Int):∀(l:List ah) (k:Nat) (dn:Bool),(dY p at_ k dn l).length≤l.length+1
 | [],_,dn=>by unfold dY;split<;>simp
 |q::l,k,dn=>by
  have ih:=I8 p at_ l (k+1)
  unfold dY
  simp only[List.length_append,List.length_cons]
  cases dn
  ·cases h:qw p.name q.name
   ·have:=ih false
    simp only[Bool.not_false,Bool.true_and,Bool.false_or,Bool.false_eq_true,if_false,List.length_nil]
    split<;>simp<;>omega
   ·have h1:(dY p at_ (k+1) true l).length≤l.length:=Ot p at_ l (k+1)
    simp only[Bool.not_false,Bool.true_and,Bool.false_or,if_true,List.length_cons,List.length_nil]
    split<;>simp<;>omega
  ·have h1:(dY p at_ (k+1) true l).length≤l.length:=Ot p at_ l (k+1)
   simp only[Bool.not_true,Bool.false_and,Bool.true_or,Bool.false_eq_true,if_false,List.length_nil]
   split<;>simp<;>omega
theorem fG.dX{w:World}{base:Nat}{e:TypeId}{s:Sl}{L:List ah}(h:Own w base e 10 s (L.map az))(hn:L.length≤lim)(hs:∀p∈L,p.name.size≤lim):fG w s.a L:=
 aO.dX h (by simp) hn (fun i hi=>by simp at hi;exact⟨L[i],List.getElem?_eq_getElem hi,by simp,hs _ (List.getElem_mem hi)⟩)
theorem Ou(p:ah)(at_:Int):∀(l:List ah) (k:Nat) (dn:Bool) (x:ah),x∈dY p at_ k dn l→x=p∨x∈l
 | [],_,dn,x,h=>by unfold dY at h;split at h<;>simp at h;exact .inl h
 |q::l,k,dn,x,h=>by
  unfold dY at h
  simp only[List.mem_append]at h
  rcases h with h|h|h
  ·split at h<;>simp at h;exact .inl h
  ·split at h<;>simp at h;exact .inr (by simp[h])
  ·rcases Ou p at_ l _ _ x h with h|h
   ·exact .inl h
   ·exact .inr (by simp[h])
def Ov(e:Sl)(D:Db)(no:Int)(w:World)(x:Ending)(w':World):Prop:=∃s:Sl,x=.returned (.tuple #[.agg (aj e s D),.int .i64 no])∧Below w.heap.size w w'∧aZ w' (fresh w.heap.size w') (fun y=>fG y s.a D.ax∧D.ax.length≤s.cap)
theorem Own.cap{w:World}{base k:Nat}{e:TypeId}{s:Sl}{rows:List (Array Value)}(h:Own w base e k s rows):rows.length≤s.cap:=by
 rcases h.own.2 with⟨_,hn⟩|⟨g,cap,cur,hv,hb,hh,hle,_,hsz,_⟩
 ·omega
 ·have hc:s.cap=cap:=by injection hv
  omega
end Go.WW
namespace Go.Proofs.YtaghcadlgbnbdaaGreatDoor
open Go.RowKit Go.WW
theorem EJ:gJ Tryz.prog 42 35 10 88:=gJ.of Tryz.underlying42 (by kernel_rfl)
theorem aiO(e q:Sl)(D:Db):eQ (aj e q D) 0 4=some (aj e q D):=by kernel_rfl
theorem rV(e q:Sl)(D:Db)(c:Array Value)(t:TypeId)(w:World):∃W,(((w.alloc (.cells (aj e q D) 44)).alloc (.cells c t)).alloc (.cells #[.string ⟨#[]⟩,.int .i64 0,.slice none 0 0,.slice none 0 0] 44))=W∧Below w.heap.size w W∧W.heap[w.heap.size]?=some (.cells (aj e q D) 44)∧W.heap[w.heap.size+1]?=some (.cells c t)∧aJ W (w.heap.size+1+1) 0 4=true∧W.heap.size=w.heap.size+1+1+1:=by
 refine⟨_,rfl,(((Below.refl _ _).alloc (Nat.le_refl _) _).alloc (by simp) _).alloc (by simp;omega) _,by rw[Below.heap_alloc _ _ _ (by simp;omega)];exact lS w _ _,?_,by simp[go_sem],by simp⟩
 rw[Below.heap_alloc _ _ _ (by simp)];have:=World.alloc_heap_new (w.alloc (.cells (aj e q D) 44)) (.cells c t);simpa using this
theorem aiP(a b:ByteArray):qw a b=(Op.bytesLess a.toList b.toList || (a.toList == b.toList)):=rfl
theorem XB{w W V:World}{e q s1:Sl}{D:Db}{L:List ah}{n:Nat}(hb:Below W.heap.size W V)(hx2:W.heap[w.heap.size]?=some (.cells (aj e q D) 44))(hz:aJ W (w.heap.size+1+1) 0 4=true)(hW:w.heap.size+1+1<W.heap.size)(hL:L.length=n) :
  row? ((V.setCell ⟨w.heap.size,3,none⟩ (.slice s1.a n s1.cap)).setCell ⟨w.heap.size,1,none⟩ (.int .i64 (D.ay+1))) w.heap.size 0 4=some (aj e s1 {D with ax:=L,ay:=D.ay+1})∧aJ ((V.setCell ⟨w.heap.size,3,none⟩ (.slice s1.a n s1.cap)).setCell ⟨w.heap.size,1,none⟩ (.int .i64 (D.ay+1))) (w.heap.size+1+1) 0 4=true:=by
 subst hL
 have hne:w.heap.size+1+1≠w.heap.size:=by omega
 exact⟨(bV (cZ (o:=1) (.int .i64 (D.ay+1)) (cZ (o:=3) (.slice s1.a L.length s1.cap) (aA hb hx2)))).trans (by kernel_rfl),(kW hne).trans ((kW hne).trans ((gY hb _ 0 4 hW).trans hz))⟩
theorem aiQ(e q:Sl)(D:Db)(p:ah)(w:World)(hs:p.name.size≤lim)(hv:dN p=false):Calls Tryz.prog 39 #[.agg (aj e q D),.agg (az p)] w fun x w'=>x=.returned (.tuple #[.agg (aj e q D),.int .i64 2])∧Below w.heap.size w w':=by
 obtain⟨W,bZ,hB,hx2,hx3,hz,hW⟩:=rV e q D (az p) 35 w
 replace bZ:=Lib.hid bZ
 go_enter Tryz.func39,Tryz.ntmps39
 go_wp2_with fail
 rw[bZ.out];clear bZ
 refine(UJ _ _ hs).mono ?_
 rintro x w1 ⟨rfl,hb1⟩
 have hy2:=aA hb1 hx2
 have hy3:=aA hb1 hx3
 have hz1:=(gY hb1 (w.heap.size+1+1) 0 4 (by omega)).trans hz
 have hs1:=hb1.size
 obtain⟨hc,hf,hr,hlt⟩:=ai hy2
 obtain⟨hc3,hf3,hr3,hlt3⟩:=ai hy3
 have hne:w.heap.size+1+1≠w.heap.size:=by omega
 rw[hv]
 have hlt4:w.heap.size+1+1<w1.heap.size:=by omega
 go_wp2_with fail
 have hrow:=iV (w:=w1) (iT e q D) hz1
 exact bodyPost_ret (kX (by rfl) Tryz.underlying44 rfl (by kernel_rfl) rfl hrow) rfl ⟨rfl,Go.WW.Below.putRow (ag hB hb1) (by omega)⟩
theorem XC(e q:Sl)(D:Db)(p:ah)(w:World)(hs:p.name.size≤lim)(hv:dN p=true)(hp:fG w q.a D.ax)(hn:D.ax.length<64)(hs0:0≤D.ay)(hs1:D.ay<1000000)(at_:Int)(hi:idxOf (fun z=>decide (z.name=p.name)) D.ax=at_):Calls Tryz.prog 39 #[.agg (aj e q D),.agg (az p)] w (Ov e {D with ax:=dY p at_ 0 false D.ax,ay:=D.ay+1} 0 w):=by
 obtain⟨W,bZ,hB,hx2,hx3,hz,hW⟩:=rV e q D (az p) 35 w
 replace bZ:=Lib.hid bZ
 have I9:(D.ay+1).tmod 4611686018427387904=D.ay+1:=Int.tmod_eq_of_lt (by omega) (by omega)
 go_enter Tryz.func39,Tryz.ntmps39
 go_wp2_with fail
 rw[bZ.out];clear bZ
 refine(UJ _ _ hs).mono ?_
 rintro x w1 ⟨rfl,hb1⟩
 have hy2:=aA hb1 hx2
 have hy3:=aA hb1 hx3
 have hz1:=(gY hb1 (w.heap.size+1+1) 0 4 (by omega)).trans hz
 have hs1:=hb1.size
 obtain⟨hc,hf,hr,hlt⟩:=ai hy2
 obtain⟨hc3,hf3,hr3,hlt3⟩:=ai hy3
 have hne:w.heap.size+1+1≠w.heap.size:=by omega
 rw[hv]
 go_wp2_with fail
 refine(Bj _ _ _ _ _ (hp.later (ag hB hb1))).mono ?_
 rintro x w2 ⟨rfl,hb2⟩
 rw[hi]
 have ik:=ag hb1 hb2
 clear hc hf hr hlt hc3 hf3 hr3 hlt3 hz1 hy2 hy3 hs1
 have hy2:=aA ik hx2
 have hy3:=aA ik hx3
 obtain⟨hc,hf,hr,hlt⟩:=ai hy2
 obtain⟨hc3,hf3,hr3,hlt3⟩:=ai hy3
 have arx:¬(64:Int)≤(D.ax.length:Int):=by omega
 obtain⟨qa,qc⟩:=q
 by_cases hat:at_<0
 all_goals
  go_wp2_with fail
  go_loopw [7,8,9] (fun ov dv iv wr=>∃(k m:Nat) (dn:Bool) (so:Sl) (R:List ah),k≤D.ax.length∧m≤2*k∧iv=.int .i64 k∧dv=.bool dn∧ov=.slice so.a m so.cap∧Hid (R.length=m)∧Hid (zn p at_ D.ax R k dn)∧Below W.heap.size W wr∧Go.WW.Own wr W.heap.size 35 10 so (R.map az)) (fun _ _ iv _=>D.ax.length-(intOf iv).toNat)
  case atStart=>exact⟨0,0,false,⟨none,0⟩,[],Nat.zero_le _,by omega,rfl,rfl,rfl,rfl,aiL _ _ _,ik,Go.WW.Own.nil _ _ _ _⟩
  case round=>
   obtain⟨k,m,dn,s1,R,hk,hmk,rfl,rfl,rfl,hlr,hI,hbr,hO⟩:=hrel
   clear hc hf hr hlt hc3 hf3 hr3 hlt3 hy2 hy3
   have hy2:=aA hbr hx2
   have hy3:=aA hbr hx3
   obtain⟨hc,hf,hr,hlt⟩:=ai hy2
   obtain⟨hc3,hf3,hr3,hlt3⟩:=ai hy3
   have hBr:=ag hB hbr
   by_cases hkl:k<D.ax.length
   ·obtain⟨b,o,rfl,hb⟩:=(aO.addr hp).resolve_left (by omega)
    have hki:(k:Int)<(D.ax.length:Int):=by omega
    have hrow0:=(hp.at k hkl).1
    have hbw:b<wr.heap.size:=Nat.lt_of_lt_of_le hb hBr.size
    have hcell:wr.cell? ⟨b,o+k*10,none⟩=some (.string D.ax[k].name):=by rw[hBr.cell (p:=⟨b,o+k*10,none⟩) hb];have:=gp hrow0 0 (by omega);simpa[go_sem]using this
    have HS:=aiM hI.out hkl
    have hl3:=aiP p.name D.ax[k].name
    generalize hxk:D.ax[k]=x at *
    cases hkq:((k:Int) != at_)
    all_goals
     cases dn
     case' false=>
      cases h1:Op.bytesLess p.name.toList x.name.toList
      case' false=>cases h2:(p.name.toList == x.name.toList)
     all_goals
      first|(rw[h1,h2]at hl3)|(rw[h1]at hl3)|skip
      simp[hkq,hl3]at HS
      have HI:=Lib.hid HS
      clear HS hl3
      go_wp2_with fail
      refine dP (Below.refl _ wr) (by kernel_rfl) (by kernel_rfl) ?_
      repeat (go_big_quiet_step (fail))
      refine wpQuiet_nil ?_
      intro u1 hb5
      have iq:=ag hbr hb5
      clear hc hf hr hlt hc3 hf3 hr3 hlt3 hcell
      obtain⟨hc,hf,hr,hlt⟩:=ai (aA iq hx2)
      obtain⟨hc3,hf3,hr3,hlt3⟩:=ai (aA iq hx3)
      have XD:=(fO ((ag hB iq).block b hb) (o+k*10) 10).trans hrow0
      have XE:=Nat.lt_of_lt_of_le hb (ag hB iq).size
      have hown1:Go.WW.Own u1 W.heap.size 35 10 s1 (R.map az):=hO.kept fun g hg=>hb5.block g (hO.base hg).2
      go_wp2_with (first
       |(have xM:Go.WW.Own (u1.alloc (.cells (az p) 35)) W.heap.size 35 10 s1 _:=hown1.kept (fun g hg=>Below.heap_alloc _ _ _ (hown1.base hg).2);at_builtin;refine gK rfl (.tmp 47) (.tmp 49) _ rfl EJ (s:=s1) rfl (by have:=hlr.out;simp[this]) xM rfl rfl (bJ.new _ (az p) _ _ (by simp[go_sem]) (by simp[go_sem])) (by have:=hlr.out;simp[this];omega) (by have h9:=iq.size;simp;omega) ?_;intro s1 u1 hown1 hg1 EK;have hbw2:=uu xM (aC iq _) hg1;have iq:=hbw2;clear EK hg1;obtain⟨gc,gf,gr,gl⟩:=ai (aA iq hx2);have XD:=(fO ((ag hB iq).block b hb) (o+k*10) 10).trans hrow0;have XE:=Nat.lt_of_lt_of_le hb (ag hB iq).size)
       |(have xM:Go.WW.Own (u1.alloc (.cells (az x) 35)) W.heap.size 35 10 s1 _:=hown1.kept (fun g hg=>Below.heap_alloc _ _ _ (hown1.base hg).2);at_builtin;refine gK rfl (.tmp 54) (.tmp 60) _ rfl EJ (s:=s1) rfl (by have:=hlr.out;simp[this]) xM rfl rfl (bJ.new _ (az x) _ _ (by simp[go_sem]) (by simp[go_sem])) (by have:=hlr.out;simp[this];omega) (by have h9:=iq.size;simp;omega) ?_;intro s1 u1 hown1 hg1 EK;have hbw2:=uu xM (aC iq _) hg1;have iq:=hbw2;clear EK hg1;obtain⟨gc,gf,gr,gl⟩:=ai (aA iq hx2);have XD:=(fO ((ag hB iq).block b hb) (o+k*10) 10).trans hrow0;have XE:=Nat.lt_of_lt_of_le hb (ag hB iq).size))
      go_roundw
      case rel=>first|exact⟨k+1,_,_,s1,_,by omega,by omega,by go_num,rfl,rfl,Lib.hid (by have:=hlr.out;simp[this]),HI.out,iq,by simpa using hown1⟩|((repeat apply Exists.intro);exact⟨⟨k+1,_,_,s1,_,by omega,by omega,by go_num,rfl,rfl,Lib.hid (by have:=hlr.out;simp[this]),HI.out,iq,by simpa using hown1⟩,rfl⟩)
      case measure=>simp[intOf];omega
   ·have HE:=aiN hI.out (show D.ax.length≤k by omega)
    have hlim:∀z∈dY p at_ 0 false D.ax,z.name.size≤lim:=fun z hz=>by
     rcases Ou _ _ _ _ _ z hz with rfl|h
     ·exact hs
     ·obtain⟨i',hi',rfl⟩:=List.mem_iff_getElem.1 h;obtain⟨_,_,_,_,h9⟩:=hp.get i' hi';exact h9
    have hll:=I8 p at_ D.ax 0 false
    have hown1:=hO
    have iq:=hbr
    cases dn
    case' false=>
     have EL:dY p at_ 0 false D.ax=R++[p]:=by simpa using HE
     clear HE
     go_wp2_with (have xM:Go.WW.Own (wr.alloc (.cells (az p) 35)) W.heap.size 35 10 s1 _:=hown1.kept (fun g hg=>Below.heap_alloc _ _ _ (hown1.base hg).2);at_builtin;refine gK rfl (.tmp 64) (.tmp 66) _ rfl EJ (s:=s1) rfl (by have:=hlr.out;simp[this]) xM rfl rfl (bJ.new _ (az p) _ _ (by simp[go_sem]) (by simp[go_sem])) (by have:=hlr.out;simp[this];omega) (by have h9:=iq.size;simp;omega) ?_;intro s1 u1 hown1 hg1 EK;have hbw2:=uu xM (aC iq _) hg1;have iq:=hbw2;clear EK hg1;clear hc hf hr hlt hc3 hf3 hr3 hlt3;have hwl:=iq.size;obtain⟨hc,hf,-,hlt⟩:=ai (aA iq hx2);have HO:Go.WW.Own u1 W.heap.size 35 10 s1 ((R++[p]).map az):=(by simpa using hown1);obtain⟨EM,hcp⟩:=XB (s1:=s1) (L:=R++[p]) (n:=m+1) iq hx2 hz (by omega) (by simp[hlr.out]))
     have hrow:=iV (iT e s1 {D with ax:=R++[p],ay:=D.ay+1}) hcp
    case' true=>
     have EL:dY p at_ 0 false D.ax=R:=by simpa using HE
     clear HE hr
     have HO:=hO
     have hwl:=iq.size
     obtain⟨EM,hcp⟩:=XB (s1:=s1) iq hx2 hz (by omega) hlr.out
     go_wp2_with fail
     have hrow:=iV (iT e s1 {D with ax:=R,ay:=D.ay+1}) hcp
    all_goals
     refine bodyPost_ret (kX (by rfl) Tryz.underlying44 rfl (by kernel_rfl) rfl hrow) rfl ⟨s1,by rw[EL];rfl,Go.WW.Below.putRow (((ag hB iq).setCell (by simp) _).setCell (by simp) _) (by omega),?_⟩
     rw[EL]
     refine fun y hy=>⟨fG.dX (HO.kept fun g hg=>?_) (by have h9:=hll;rw[EL]at h9;exact Nat.le_trans h9 (by unfold lim;omega)) (by rw[←EL];exact hlim),by have h9:=Go.WW.Own.cap HO;rw[List.length_map]at h9;exact h9⟩
     have hg1:=HO.base hg
     rw[hy g ⟨by omega,by rw[jS];simp only[World.setCell,Array.size_modify];omega⟩,jh (by omega),Below.heap_setCell _ _ _ _ (show g≠w.heap.size by omega),Below.heap_setCell _ _ _ _ (show g≠w.heap.size by omega)]
end Go.Proofs.YtaghcadlgbnbdaaGreatDoor
namespace Go.WW
open Go.RowKit
def iF(x d:Entry):Bool:=lV x d.name || d.aliases.any (lV x)
def uC(x d:Entry)(k:Nat):Bool:=lV x d.name || (d.aliases.take k).any (lV x)
theorem aiR{x d:Entry}{k:Nat}(h:k<d.aliases.length):uC x d (k+1)=(uC x d k || lV x d.aliases[k]):=by
 unfold uC
 rw[List.take_succ_eq_append_getElem h,List.any_append]
 simp[Bool.or_assoc]
theorem aiS{x d:Entry}{k:Nat}(h:d.aliases.length≤k):uC x d k=iF x d:=by unfold uC iF;rw[List.take_of_length_le h]
def Ja(q:Sl)(D:Db)(X:List EE)(w:World)(x:Ending)(w':World):Prop:=∃s:Sl,x=.returned (.tuple #[.agg (aj s q {D with entries:=X.map (·.2),ay:=D.ay+1}),.int .i64 0])∧Below w.heap.size w w'∧aZ w' (fresh w.heap.size w') (fun y=>fB y s.a X)
theorem bz.aG{w:World}{r:aI}{d:Entry}(h:bz w r d):d.name.aG.size≤lim:=h.name.2
end Go.WW
namespace Go.Proofs.YtaghcadlgbnbdaaGreatDoor
open Go.RowKit Go.WW
theorem zo(r:aI)(d:Entry)(w:World)(he:bz w r d)(b:Bool)(h:bF d=b):Calls Tryz.prog 75 #[.agg (ae r d)] w fun e w'=>e=.returned (.bool b)∧Below w.heap.size w w':=by
 have x:=ae6 r d w he;rw[h]at x;exact x
theorem aiT(e q:Sl)(D:Db)(r:aI)(d:Entry)(w:World)(he:bz w r d)(hv:bF d=false):Calls Tryz.prog 35 #[.agg (aj e q D),.agg (ae r d)] w fun x w'=>x=.returned (.tuple #[.agg (aj e q D),.int .i64 2])∧Below w.heap.size w w':=by
 obtain⟨W,bZ,hB,hx2,hx3,hz,hW⟩:=rV e q D (ae r d) 32 w
 replace bZ:=Lib.hid bZ
 go_enter Tryz.func35,Tryz.ntmps35
 go_wp2_with fail
 rw[bZ.out];clear bZ
 refine(zo _ _ _ (he.later hB) false hv).mono ?_
 rintro x w1 ⟨rfl,hb1⟩
 have hs1:=hb1.size
 obtain⟨hc,hf,hr,hlt⟩:=ai (aA hb1 hx2)
 obtain⟨hc3,hf3,hr3,hlt3⟩:=ai (aA hb1 hx3)
 dsimp only
 have hlt4:w.heap.size+1+1<w1.heap.size:=by have:=hb1.size;omega
 have hz1:=(gY hb1 (w.heap.size+1+1) 0 4 (by omega)).trans hz
 have hne:w.heap.size+1+1≠w.heap.size:=by omega
 go_wp2_with fail
 have hrow:=iV (w:=w1) (iT e q D) hz1
 exact bodyPost_ret (kX (by rfl) Tryz.underlying44 rfl (by kernel_rfl) rfl hrow) rfl ⟨rfl,Go.WW.Below.putRow (ag hB hb1) (by omega)⟩
theorem aiU(e q:Sl)(D:Db)(r:aI)(d:Entry)(w:World)(he:bz w r d)(hv:bF d=true)(hre:¬d.name.aG=D.aG):Calls Tryz.prog 35 #[.agg (aj e q D),.agg (ae r d)] w fun x w'=>x=.returned (.tuple #[.agg (aj e q D),.int .i64 2])∧Below w.heap.size w w':=by
 have XF:=kD _ _ hre
 clear hre
 obtain⟨W,bZ,hB,hx2,hx3,hz,hW⟩:=rV e q D (ae r d) 32 w
 replace bZ:=Lib.hid bZ
 go_enter Tryz.func35,Tryz.ntmps35
 go_wp2_with fail
 rw[bZ.out];clear bZ
 refine(zo _ _ _ (he.later hB) true hv).mono ?_
 rintro x w1 ⟨rfl,hb1⟩
 have hs1:=hb1.size
 obtain⟨hc,hf,hr,hlt⟩:=ai (aA hb1 hx2)
 obtain⟨hc3,hf3,hr3,hlt3⟩:=ai (aA hb1 hx3)
 dsimp only
 have hlt4:w.heap.size+1+1<w1.heap.size:=by have:=hb1.size;omega
 have hz1:=(gY hb1 (w.heap.size+1+1) 0 4 (by omega)).trans hz
 have hne:w.heap.size+1+1≠w.heap.size:=by omega
 go_wp2_with fail
 have hrow:=iV (w:=w1) (iT e q D) hz1
 exact bodyPost_ret (kX (by rfl) Tryz.underlying44 rfl (by kernel_rfl) rfl hrow) rfl ⟨rfl,Go.WW.Below.putRow (ag hB hb1) (by omega)⟩
theorem aiV(e q:Sl)(D:Db)(r:aI)(d:Entry)(w:World)(he:bz w r d)(hv:bF d=true)(hre:d.name.aG=D.aG)(hp:fG w q.a D.ax)(hpe:¬d.aK=⟨#[]⟩)(hi:idxOf (fun z=>decide (z.name=d.aK)) D.ax=-1):Calls Tryz.prog 35 #[.agg (aj e q D),.agg (ae r d)] w fun x w'=>x=.returned (.tuple #[.agg (aj e q D),.int .i64 9])∧Below w.heap.size w w':=by
 have XF:=str_eq _ _ hre
 have aiW:=kD _ _ hpe
 have Ox:¬d.aK.toList=[]:=fun h=>hpe (toList_inj (b:=⟨#[]⟩) (by rw[h,ByteArray.toList_eq]))
 have XG:d.aK.toList.isEmpty=false:=by cases h:d.aK.toList<;>simp_all
 clear hre hpe
 obtain⟨W,bZ,hB,hx2,hx3,hz,hW⟩:=rV e q D (ae r d) 32 w
 replace bZ:=Lib.hid bZ
 go_enter Tryz.func35,Tryz.ntmps35
 go_wp2_with fail
 rw[bZ.out];clear bZ
 refine(zo _ _ _ (he.later hB) true hv).mono ?_
 rintro x w1 ⟨rfl,hb1⟩
 have hs1:=hb1.size
 obtain⟨hc,hf,hr,hlt⟩:=ai (aA hb1 hx2)
 obtain⟨hc3,hf3,hr3,hlt3⟩:=ai (aA hb1 hx3)
 dsimp only
 go_wp2_with fail
 refine(Bj _ _ _ _ _ (hp.later (ag hB hb1))).mono ?_
 rintro x w2 ⟨rfl,hb2⟩
 rw[hi]
 have ik:=ag hb1 hb2
 clear hc hf hr hlt hc3 hf3 hr3 hlt3
 obtain⟨hc,hf,hr,hlt⟩:=ai (aA ik hx2)
 obtain⟨hc3,hf3,hr3,hlt3⟩:=ai (aA ik hx3)
 dsimp only
 have hlt4:w.heap.size+1+1<w2.heap.size:=by have:=ik.size;omega
 have hz1:=(gY ik (w.heap.size+1+1) 0 4 (by omega)).trans hz
 have hne:w.heap.size+1+1≠w.heap.size:=by omega
 go_wp2_with fail
 have hrow:=iV (w:=w2) (iT e q D) hz1
 exact bodyPost_ret (kX (by rfl) Tryz.underlying44 rfl (by kernel_rfl) rfl hrow) rfl ⟨rfl,Go.WW.Below.putRow (ag hB ik) (by omega)⟩
theorem aiX{α:Type}(f:α→Bool)(l:List α):idxOf f l=-1∨∃i:Nat,i<l.length∧idxOf f l=i:=by
 unfold idxOf
 cases hf:l.findIdx? f with
 |none=>exact .inl rfl
 |some i=>exact .inr ⟨i,(List.findIdx?_eq_some_iff_getElem.1 hf).1,rfl⟩
theorem Oy(e q:Sl)(D:Db)(r:aI)(d:Entry)(w:World)(he:bz w r d)(X:List EE)(hX:fB w e.a X)(hm:∀x∈X,bz w x.1 x.2)(hD:D.entries=X.map (·.2))(hn:X.length≤1000)(hv:bF d=true)(hre:d.name.aG=D.aG)(zl:d.aK=⟨#[]⟩∨(fG w q.a D.ax∧¬d.aK=⟨#[]⟩∧∃jp:Nat,idxOf (fun z=>decide (z.name=d.aK)) D.ax=(jp:Int)))(at0:Int)(hat:idxOf (fun z=>bn z.name d.name) D.entries=at0)(hs0:0≤D.ay)(hs1:D.ay<1000000)(Q:Ending→World→Prop)(XH:∀j (h:j<X.length),iF X[j].2 d=true→¬(j:Int)=at0→∀x w',x=.returned (.tuple #[.agg (aj e q D),.int .i64 11])∧Below w.heap.size w w'→Q x w')(hok:(∀i (h:i<X.length),iF X[i].2 d=true→(i:Int)=at0)→∀X5:List EE,(at0=-1∧X5=X∨∃i0:Nat,i0<X.length∧at0=i0∧X5=X.eraseIdx i0)→∀x w',Ja q D (jH dV dW (r,d) X5) w x w'→Q x w'):Calls Tryz.prog 35 #[.agg (aj e q D),.agg (ae r d)] w Q:=by
 have XF:=str_eq _ _ hre
 clear hre
 have hlen:D.entries.length=X.length:=by rw[hD];simp
 have hE:iZ w e.a D.entries:=by rw[hD];exact hX.dR hm
 have hal:d.aliases.length≤4294967000:=he.aliases.1
 have hcs:at0=-1∨∃i:Nat,i<X.length∧at0=i:=by rw[←hat,←hlen];exact aiX _ _
 have HB:=Lib.hid XH
 have HO:=Lib.hid hok
 have HC:=Lib.hid hcs
 clear hD XH hok hcs
 obtain⟨W,bZ,hB,hx2,hx3,hz,hW⟩:=rV e q D (ae r d) 32 w
 replace bZ:=Lib.hid bZ
 go_enter Tryz.func35,Tryz.ntmps35
 go_wp2_with fail
 rw[bZ.out];clear bZ
 refine(zo _ _ _ (he.later hB) true hv).mono ?_
 rintro x w1 ⟨rfl,hb1⟩
 have hs1:=hb1.size
 obtain⟨hc,hf,hr,hlt⟩:=ai (aA hb1 hx2)
 obtain⟨hc3,hf3,hr3,hlt3⟩:=ai (aA hb1 hx3)
 dsimp only
 rcases zl with hpe|⟨hp,hpe,jp,hi⟩
 case' inl=>
  have Ox:d.aK.toList=[]:=by rw[hpe,ByteArray.toList_eq]
  have XG:d.aK.toList.isEmpty=true:=by rw[Ox];rfl
  clear hpe
 case' inr=>
  have aiW:=kD _ _ hpe
  have Ox:¬d.aK.toList=[]:=fun h=>hpe (toList_inj (b:=⟨#[]⟩) (by rw[h,ByteArray.toList_eq]))
  have XG:d.aK.toList.isEmpty=false:=by cases h:d.aK.toList<;>simp_all
  clear hpe
  go_wp2_with fail
  refine(Bj _ _ _ _ _ (hp.later (ag hB hb1))).mono ?_
  rintro x w1 ⟨rfl,hb2⟩
  rw[hi]
  have hb1:=ag hb1 hb2
  have hs1:=hb1.size
  clear hc hf hr hlt hc3 hf3 hr3 hlt3
  obtain⟨hc,hf,hr,hlt⟩:=ai (aA hb1 hx2)
  obtain⟨hc3,hf3,hr3,hlt3⟩:=ai (aA hb1 hx3)
  dsimp only
 all_goals
  go_wp2_with fail
  refine(Ew _ _ _ _ _ _ (hE.later (ag hB hb1)) (he.name.later (ag hB hb1))).mono ?_
  rintro x w4 ⟨rfl,hy4⟩
  rw[hat]
  have hb4:=ag hb1 hy4
  clear hc hf hr hlt hc3 hf3 hr3 hlt3
  obtain⟨hc,hf,hr,hlt⟩:=ai (aA hb4 hx2)
  obtain⟨hc3,hf3,hr3,hlt3⟩:=ai (aA hb4 hx3)
  dsimp only
  go_wp2_with fail
  go_loopw [7] (fun iv wr=>Below W.heap.size W wr∧∃k:Nat,k≤D.entries.length∧iv=.int .i64 k∧Hid (∀i (h:i<X.length),i<k→iF X[i].2 d=true→(i:Int)=at0)) (fun iv _=>D.entries.length-(intOf iv).toNat)
  case atStart=>exact⟨hb4,0,Nat.zero_le _,rfl,Lib.hid fun i _ h=>absurd h (Nat.not_lt_zero _)⟩
  case round=>
   obtain⟨hbr,k,hk,rfl,hpre⟩:=hrel
   clear hc hf hr hlt hc3 hf3 hr3 hlt3
   obtain⟨hc,hf,hr,hlt⟩:=ai (aA hbr hx2)
   obtain⟨hc3,hf3,hr3,hlt3⟩:=ai (aA hbr hx3)
   have hBr:=ag hB hbr
   by_cases hkl:k<D.entries.length
   ·have hki:(k:Int)<(D.entries.length:Int):=by omega
    have hkX:k<X.length:=by omega
    obtain⟨b,o,ha,hb0⟩:∃b o,e.a=some ⟨b,o,none⟩∧b<w.heap.size:=by rcases aO.addr hX with h0|h0;omega;exact h0
    have hrow0:row? w b (o+k*17) 17=some (ae X[k].1 X[k].2):=(ha▸hX:fB w (some ⟨b,o,none⟩) X).at k hkX
    have hbw:b<wr.heap.size:=Nat.lt_of_lt_of_le hb0 hBr.size
    have hrow:=(fO (hBr.block b hb0) (o+k*17) 17).trans hrow0
    have hxk:=hm X[k] (List.getElem_mem hkX)
    have XI:=Lib.hid (show iF X[k].2 d=false∨(k:Int)=at0→∀i (h:i<X.length),i<k+1→iF X[i].2 d=true→(i:Int)=at0 from fun hz i h hi hq=>by
     rcases Nat.lt_succ_iff_lt_or_eq.1 hi with h1|rfl
     ·exact hpre.out i h h1 hq
     ·rcases hz with hz|hz
      ·rw[hz]at hq;cases hq
      ·exact hz)
    have Oz:=Lib.hid (HB.out k hkX)
    generalize X[k]=x at *
    go_wp2_with fail
    refine dP (Below.refl _ wr) (by kernel_rfl) (by kernel_rfl) ?_
    repeat (go_big_quiet_step ((go_at_call 78;rename_i xw;exact Calls.gX (WX _ _ _ _ _ ((hxk.later hBr).later xw.b) ((he.name.later hBr).later xw.b)))))
    refine wpQuiet_nil ?_
    intro w5 hb5
    have nC:=ag hbr hb5
    clear hc hf hr hlt hc3 hf3 hr3 hlt3 hrow hbw
    obtain⟨hc,hf,hr,hlt⟩:=ai (aA nC hx2)
    obtain⟨hc3,hf3,hr3,hlt3⟩:=ai (aA nC hx3)
    obtain⟨wo,hwo⟩:∃wo:World,wo=wr:=⟨_,rfl⟩
    have HZ0:Hid (lV x.2 d.name=uC x.2 d 0):=by simp[Hid,uC]
    generalize lV x.2 d.name=z0 at *
    go_wp2_with fail
    go_loopw [8,9] (fun zv jv wr=>Below W.heap.size W wr∧∃(j:Nat) (z:Bool),j≤d.aliases.length∧jv=.int .i64 j∧zv=.bool z∧Hid (z=uC x.2 d j)) (fun _ jv _=>d.aliases.length-(intOf jv).toNat)
    case atStart=>exact⟨nC,0,z0,Nat.zero_le _,rfl,rfl,HZ0⟩
    case round=>
     obtain⟨hbq,j,z,hj,rfl,rfl,hzz⟩:=hrel
     clear hc hf hr hlt hc3 hf3 hr3 hlt3
     obtain⟨hc,hf,hr,hlt⟩:=ai (aA hbq hx2)
     obtain⟨hc3,hf3,hr3,hlt3⟩:=ai (aA hbq hx3)
     have Bv:=ag hB hbq
     by_cases hjl:j<d.aliases.length
     ·have hji:(j:Int)<(d.aliases.length:Int):=by omega
      obtain⟨b2,o2,t2,ha2,hr2,hp2⟩:=he.aliases.get j hjl
      have XJ:b2<w.heap.size:=gq hr2
      have ary:=Nat.lt_of_lt_of_le XJ Bv.size
      have arz:=Nat.lt_of_lt_of_le hb0 Bv.size
      have hrow2:=(fO (Bv.block b2 XJ) (o2+j*2) 2).trans hr2
      have hrow1:=(fO (Bv.block b hb0) (o+k*17) 17).trans hrow0
      have hst:=aiR (x:=x.2) hjl
      generalize d.aliases[j]=al at *
      cases z
      case' false=>
       have HZ:=Lib.hid (show lV x.2 al=uC x.2 d (j+1) by rw[hst,←hzz.out];rfl)
       clear hst hzz
       go_wp2_with fail
       refine dP (Below.refl _ wr) (by kernel_rfl) (by kernel_rfl) ?_
       repeat (go_big_quiet_step ((go_at_call 78;rename_i xw;exact Calls.gX (WX _ _ _ _ _ ((hxk.later Bv).later xw.b) ((hp2.later Bv).later xw.b)))))
       refine wpQuiet_nil ?_
       intro w6 hb6
       generalize lV x.2 al=z1 at *
      case' true=>
       have HZ:=Lib.hid (show true=uC x.2 d (j+1) by rw[hst,←hzz.out];rfl)
       clear hst hzz
       go_wp2_with fail
       refine dP (Below.refl _ wr) (by kernel_rfl) (by kernel_rfl) ?_
       repeat (go_big_quiet_step (fail))
       refine wpQuiet_nil ?_
       intro w6 hb6
      all_goals
       have uA:=ag hbq hb6
       go_wp2_with fail
       go_roundw
       case rel=>first|exact⟨uA,j+1,_,by omega,by go_num,rfl,HZ.out⟩|((repeat apply Exists.intro);exact⟨⟨uA,j+1,_,by omega,by go_num,rfl,HZ.out⟩,rfl⟩)
       case measure=>simp[intOf];omega
     ·have HZ:=Lib.hid (show z=iF x.2 d by rw[hzz.out,aiS (by omega)])
      clear hzz
      by_cases hgo:z=true∧¬(k:Int)=at0
      ·obtain⟨rfl,hne0⟩:=hgo
       have aiY:((k:Int) != at0)=true:=by simpa using hne0
       have hlt4:w.heap.size+1+1<wr.heap.size:=by have:=hbq.size;omega
       have hz1:=(gY hbq (w.heap.size+1+1) 0 4 (by omega)).trans hz
       have hne:w.heap.size+1+1≠w.heap.size:=by omega
       go_wp2_with fail
       have hrow:=iV (w:=wr) (iT e q D) hz1
       exact bodyPost_ret (kX (by rfl) Tryz.underlying44 rfl (by kernel_rfl) rfl hrow) rfl (Oz.out HZ.out.symm hne0 _ _ ⟨rfl,Go.WW.Below.putRow (ag hB hbq) (by omega)⟩)
      ·have HN:=Lib.hid (XI.out (by rcases Decidable.em ((k:Int)=at0)with h|h;exact .inr h;exact .inl (by rw[←HZ.out];cases z;rfl;exact absurd ⟨rfl,h⟩ hgo)))
       clear XI
       cases z
       case' true=>
        have aiY:((k:Int) != at0)=false:=by
         have:(k:Int)=at0:=Classical.byContradiction fun h=>hgo ⟨rfl,h⟩
         simp[this]
       all_goals
        clear hgo
        go_wp2_with fail
        go_roundw
        case rel=>first|exact⟨hbq,k+1,by omega,by go_num,HN⟩|((repeat apply Exists.intro);exact⟨⟨hbq,k+1,by omega,by go_num,HN⟩,rfl⟩)
        case measure=>simp[intOf];omega
   ·obtain rfl:k=D.entries.length:=by omega
    have HQ:=Lib.hid (HO.out fun i h=>hpre.out i h (by omega))
    clear hpre
    have arA:¬(4096:Int)≤(D.entries.length:Int):=by omega
    have I9:(D.ay+1).tmod 4611686018427387904=D.ay+1:=Int.tmod_eq_of_lt (by omega) (by omega)
    have hne1:w.heap.size+1≠w.heap.size:=by omega
    have hne2:w.heap.size+1+1≠w.heap.size:=by omega
    rcases HC.out with rfl|⟨i0,hi0,rfl⟩
    case' inr=>
     have hq5:=HQ.out _ (.inr ⟨i0,hi0,rfl,rfl⟩)
     have hge:(0:Int)≤(i0:Int):=by omega
     have Jb:¬(i0:Int)<0:=by omega
     have hcon:=WY e.a e.cap X i0 wr (hX.later hBr) hi0
     go_wp2_with fail
     refine hcon.mono ?_
     rintro x w5 ⟨s5,rfl,hb5,hd5⟩
     have nC:=ag hbr hb5
     clear hc hf hr hlt hc3 hf3 hr3 hlt3
     obtain⟨hc,hf,hr,hlt⟩:=ai (aA nC hx2)
     obtain⟨hc3,hf3,hr3,hlt3⟩:=ai (aA nC hx3)
     dsimp only
     go_wp2_with fail
     obtain⟨V,hV⟩:∃V,(w5.setCell ⟨w.heap.size,2,none⟩ (.slice s5.a (X.eraseIdx i0).length s5.cap))=V:=⟨_,rfl⟩
     have hv2:V.heap[w.heap.size]?=some (.cells (aj s5 q {D with entries:=(X.eraseIdx i0).map (·.2)}) 44):=hV▸(cZ (o:=2) _ (aA nC hx2)).trans (by rw[show(X.eraseIdx i0).length=((X.eraseIdx i0).map (·.2)).length from(List.length_map _).symm,WR])
     have hv3:V.heap[w.heap.size+1]?=some (.cells (ae r d) 32):=hV▸(Below.heap_setCell _ _ _ _ hne1).trans (aA nC hx3)
     have XK:aJ V (w.heap.size+1+1) 0 4=true:=hV▸(kW hne2).trans ((gY nC (w.heap.size+1+1) 0 4 (by omega)).trans hz)
     have iE:Below w.heap.size w V:=hV▸(ag hB nC).setCell (by simp) _
     have hXV:fB V s5.a (X.eraseIdx i0):=hd5 _ (fun g hg=>hV▸Below.heap_setCell _ _ _ _ (show g≠w.heap.size by have:=hg.1;have:=hbr.size;omega))
     have OA:w.heap.size+1+1<V.heap.size:=by rw[←hV];simp only[World.setCell,Array.size_modify];have:=nC.size;omega
     have hmV:∀x∈X.eraseIdx i0,bz w x.1 x.2:=fun x hx=>hm x (List.mem_of_mem_eraseIdx hx)
     have kK:(X.eraseIdx i0).length≤1000000:=by have:=List.length_eraseIdx_le X i0;omega
     rw[hV]
     clear hc hf hr hlt hc3 hf3 hr3 hlt3 hV
     generalize X.eraseIdx i0=X5 at *
     refine(WZ s5.a s5.cap X5 r d V hXV (fun x hx=>(hmV x hx).later iE) (he.later iE) kK).mono ?_
    case' inl=>
     have hq5:=HQ.out _ (.inl ⟨rfl,rfl⟩)
     have hv2:=aA hbr hx2
     have hv3:=aA hbr hx3
     have XK:=(gY hbr (w.heap.size+1+1) 0 4 (by omega)).trans hz
     have iE:=hBr
     have OA:w.heap.size+1+1<wr.heap.size:=by have:=hbr.size;omega
     have hcon:=WZ e.a e.cap X r d wr (hX.later hBr) (fun x hx=>(hm x hx).later hBr) (he.later hBr) (by omega)
     go_wp2_with fail
     refine hcon.mono ?_
     generalize wr=V at *
     clear hc hf hr hlt hc3 hf3 hr3 hlt3
     obtain⟨X5,hq⟩:∃q,q=X:=⟨_,rfl⟩
     subst hq
    all_goals
     rintro x w7 ⟨s7,rfl,hb7,hd7⟩
     generalize jH dV dW (r,d) X5=X7 at *
     have hy2:=aA hb7 hv2
     have hs7:=hb7.size
     obtain⟨hc,hf,hr,hlt⟩:=ai hy2
     have hset:=cZ (o:=1) (.int .i64 (D.ay+1)) (cZ (o:=2) (.slice s7.a X7.length s7.cap) hy2)
     have EM:row? ((w7.setCell ⟨w.heap.size,2,none⟩ (.slice s7.a X7.length s7.cap)).setCell ⟨w.heap.size,1,none⟩ (.int .i64 (D.ay+1))) w.heap.size 0 4=some (aj s7 q {D with entries:=X7.map (·.2),ay:=D.ay+1}):=(bV hset).trans (by rw[show X7.length=(X7.map (·.2)).length from(List.length_map _).symm];kernel_rfl)
     have hcp:aJ ((w7.setCell ⟨w.heap.size,2,none⟩ (.slice s7.a X7.length s7.cap)).setCell ⟨w.heap.size,1,none⟩ (.int .i64 (D.ay+1))) (w.heap.size+1+1) 0 4=true:=(kW hne2).trans ((kW hne2).trans ((gY hb7 (w.heap.size+1+1) 0 4 OA).trans XK))
     clear hr
     dsimp only
     go_wp2_with fail
     have hrow:=iV (iT s7 q {D with entries:=X7.map (·.2),ay:=D.ay+1}) hcp
     refine bodyPost_ret (kX (by rfl) Tryz.underlying44 rfl (by kernel_rfl) rfl hrow) rfl (hq5 _ _ ⟨s7,rfl,Go.WW.Below.putRow (((ag iE hb7).setCell (by simp) _).setCell (by simp) _) (by omega),fun y hy=>hd7 _ (fun g hg=>?_)⟩)
     have hg1:=hg.1
     have hg2:=hg.2
     rw[hy g ⟨by omega,by rw[jS];simp only[World.setCell,Array.size_modify];omega⟩,jh (by omega),Below.heap_setCell _ _ _ _ (show g≠w.heap.size by omega),Below.heap_setCell _ _ _ _ (show g≠w.heap.size by omega)]
end Go.Proofs.YtaghcadlgbnbdaaGreatDoor
namespace Go.WW
def zq(L:List (ByteArray×ByteArray))(k o:ByteArray):List (ByteArray×ByteArray):=if L.any (fun x=>decide (x.1=k))=true then L.map (fun x=>if x.1=k then(k,o)else x)else L++[(k,o)]
def delS(L:List (ByteArray×ByteArray))(k:ByteArray):List (ByteArray×ByteArray):=L.filter fun x=>decide (x.1≠k)
theorem ai1(L:List (ByteArray×ByteArray))(k o:ByteArray):nS (gQ L) k (.string o)=gQ (zq L k o):=by
 have h:hasK (gQ L) k=L.any (fun x=>decide (x.1=k)):=by
  unfold hasK gQ;rw[List.any_map];rfl
 unfold nS zq
 rw[h]
 unfold gQ
 split
 ·rw[List.map_map,List.map_map]
  refine List.map_congr_left fun x _=>?_
  simp only[Function.comp]
  split<;>rfl
 ·simp
theorem ai2(L:List (ByteArray×ByteArray))(k:ByteArray):ku (gQ L) k=gQ (delS L k):=by
 unfold ku delS gQ
 rw[List.filter_map]
 rfl
def zt(L:List (ByteArray×ByteArray))(k:ByteArray)(ps:List aB):List (ByteArray×ByteArray):=ps.foldl (fun m p=>zq m (textOf p) k) L
def xN(L:List (ByteArray×ByteArray))(ps:List aB):List (ByteArray×ByteArray):=ps.foldl (fun m p=>delS m (textOf p)) L
theorem XL(k:ByteArray):∀(ps:List aB) (L:List (ByteArray×ByteArray)),rQ (gQ L) k ps=gQ (zt L k ps)
 | [],_=>rfl
 |p::ps,L=>by
  show rQ (nS (gQ L) (textOf p) (.string k)) k ps=gQ (zt (zq L (textOf p) k) k ps)
  rw[ai1];exact XL k ps _
theorem OB:∀(ps:List aB) (L:List (ByteArray×ByteArray)),rO (gQ L) ps=gQ (xN L ps)
 | [],_=>rfl
 |p::ps,L=>by
  show rO (ku (gQ L) (textOf p)) ps=gQ (xN (delS L (textOf p)) ps)
  rw[ai2];exact OB ps _
theorem ai3{L:List (ByteArray×ByteArray)}{j k o:ByteArray}:(k,o)∈delS L j↔k≠j∧(k,o)∈L:=by
 unfold delS
 rw[List.mem_filter]
 simp only[ne_eq,decide_not,Bool.not_eq_eq_eq_not,Bool.not_true,decide_eq_false_iff_not]
 exact And.comm
theorem ai4{L:List (ByteArray×ByteArray)}{j v k o:ByteArray}:(k,o)∈zq L j v↔(k=j∧o=v)∨(k≠j∧(k,o)∈L):=by
 unfold zq
 by_cases h:L.any (fun x=>decide (x.1=j))=true
 ·rw[if_pos h]
  obtain⟨x0,hx0,e0⟩:=List.any_eq_true.1 h
  have e0:x0.1=j:=by simpa using e0
  constructor
  ·intro hm
   obtain⟨x,hx,e⟩:=List.mem_map.1 hm
   by_cases hj:x.1=j
   ·rw[if_pos hj]at e;cases e;exact .inl ⟨rfl,rfl⟩
   ·rw[if_neg hj]at e;subst e;exact .inr ⟨hj,hx⟩
  ·rintro(⟨rfl,rfl⟩|⟨h1,h2⟩)
   ·exact List.mem_map.2 ⟨x0,hx0,by rw[if_pos e0]⟩
   ·exact List.mem_map.2 ⟨(k,o),h2,by rw[if_neg h1]⟩
 ·rw[if_neg h]
  have hn:∀x∈L,¬x.1=j:=fun x hx e=>h (List.any_eq_true.2 ⟨x,hx,by simpa using e⟩)
  constructor
  ·intro hm
   rcases List.mem_append.1 hm with h1|h1
   ·exact .inr ⟨hn _ h1,h1⟩
   ·simp only[List.mem_singleton,Prod.mk.injEq]at h1;exact .inl h1
  ·rintro(⟨rfl,rfl⟩|⟨h1,h2⟩)
   ·simp
   ·exact List.mem_append_left _ h2
theorem XM{k o:ByteArray}:∀(ps:List aB) (L:List (ByteArray×ByteArray)),(k,o)∈xN L ps↔(∀q∈ps,k≠textOf q)∧(k,o)∈L
 | [],L=>by simp[xN]
 |p::ps,L=>by
  show(k,o)∈xN (delS L (textOf p)) ps↔_
  rw[XM ps,ai3]
  constructor
  ·rintro⟨h1,h2,h3⟩
   exact⟨fun q hq=>by rcases List.mem_cons.1 hq with rfl|hq<;>first|exact h2|exact h1 q hq,h3⟩
  ·rintro⟨h1,h2⟩
   exact⟨fun q hq=>h1 q (List.mem_cons_of_mem _ hq),h1 p (List.mem_cons_self ..),h2⟩
theorem XN{v k o:ByteArray}:∀(ps:List aB) (L:List (ByteArray×ByteArray)),(k,o)∈zt L v ps↔(o=v∧∃q∈ps,k=textOf q)∨((∀q∈ps,k≠textOf q)∧(k,o)∈L)
 | [],L=>by simp[zt]
 |p::ps,L=>by
  show(k,o)∈zt (zq L (textOf p) v) v ps↔_
  rw[XN ps,ai4]
  constructor
  ·rintro(⟨h1,q,hq,h2⟩|⟨h1,(⟨h2,h3⟩|⟨h2,h3⟩)⟩)
   ·exact .inl ⟨h1,q,List.mem_cons_of_mem _ hq,h2⟩
   ·exact .inl ⟨h3,p,List.mem_cons_self ..,h2⟩
   ·exact .inr ⟨fun q hq=>by rcases List.mem_cons.1 hq with rfl|hq<;>first|exact h2|exact h1 q hq,h3⟩
  ·rintro(⟨h1,q,hq,h2⟩|⟨h1,h2⟩)
   ·by_cases hp:∃q∈ps,k=textOf q
    ·exact .inl ⟨h1,hp⟩
    ·have hn:∀q∈ps,k≠textOf q:=fun q hq e=>hp ⟨q,hq,e⟩
     rcases List.mem_cons.1 hq with rfl|hq
     ·exact .inr ⟨hn,.inl ⟨h2,h1⟩⟩
     ·exact absurd h2 (hn q hq)
   ·exact .inr ⟨fun q hq=>h1 q (List.mem_cons_of_mem _ hq),.inr ⟨h1 p (List.mem_cons_self ..),h2⟩⟩
theorem Jc{β:Type}{l:List β}(h:l.Nodup){i j:Nat}(hi:i<l.length)(hj:j<l.length)(e:l[i]=l[j]):i=j:=by
 rcases Nat.lt_trichotomy i j with h1|h1|h1
 ·exact absurd e (List.pairwise_iff_getElem.1 h i j hi hj h1)
 ·exact h1
 ·exact absurd e.symm (List.pairwise_iff_getElem.1 h j i hj hi h1)
def iM(d:Entry):List aB:=d.name::d.aliases
def vT(NL:List (ByteArray×ByteArray))(E:List Entry):Prop:=∀k o,(k,o)∈NL↔∃x∈E,textOf x.name=o∧∃q∈iM x,k=textOf q
structure gy(E:List Entry):Prop where
 ok:∀x∈E,bF x=true
 nodup:(E.map fun x=>textOf x.name).Nodup
 apart:∀x∈E,∀y∈E,∀q∈iM x,∀q'∈iM y,textOf q=textOf q'→textOf x.name=textOf y.name
theorem gy.nil:gy []:=⟨by simp,by simp,by simp⟩
theorem gy.perm{E F:List Entry}(h:gy E)(p:F.Perm E):gy F:=
 ⟨fun x hx=>h.ok x (p.mem_iff.1 hx),(p.map _).nodup_iff.2 h.nodup,fun x hx y hy=>h.apart x (p.mem_iff.1 hx) y (p.mem_iff.1 hy)⟩
theorem gy.same{E:List Entry}(h:gy E){x y:Entry}(hx:x∈E)(hy:y∈E)(e:textOf x.name=textOf y.name):x=y:=by
 obtain⟨i,hi,rfl⟩:=List.mem_iff_getElem.1 hx
 obtain⟨j,hj,rfl⟩:=List.mem_iff_getElem.1 hy
 obtain rfl:=Jc h.nodup (i:=i) (j:=j) (by simpa using hi) (by simpa using hj) (by simpa using e)
 rfl
theorem ai5{l:List aB}(h:different l=true):∀q∈l,bD q=true:=by
 intro q hq
 obtain⟨i,hi,rfl⟩:=List.mem_iff_getElem.1 hq
 cases hp:bD l[i]with
 |true=>rfl
 |false=>rw[UQ i hi hp]at h;cases h
theorem vU{d:Entry}(h:bF d=true):∀q∈iM d,bD q=true:=by
 simp only[bF,Bool.and_eq_true]at h
 obtain⟨⟨⟨⟨⟨⟨⟨⟨⟨h1,h2⟩,-⟩,-⟩,-⟩,-⟩,-⟩,-⟩,-⟩,-⟩:=h
 intro q hq
 rcases List.mem_cons.1 hq with rfl|hq
 ·exact h1
 ·exact ai5 h2 q hq
def jK(E:List Entry)(k:ByteArray):List Entry:=E.filter fun x=>decide (textOf x.name≠k)
theorem XO{E:List Entry}{k:ByteArray}(h:∀x∈E,textOf x.name≠k):jK E k=E:=List.filter_eq_self.2 fun x hx=>by simpa using h x hx
theorem Jd{E:List Entry}{k:ByteArray}{x:Entry}:x∈jK E k↔x∈E∧textOf x.name≠k:=by simp[jK]
theorem XP{NL:List (ByteArray×ByteArray)}{E:List Entry}(h:vT NL E)(hg:gy E){x0:Entry}(hx:x0∈E):vT (xN NL (iM x0)) (jK E (textOf x0.name)):=by
 intro k o
 rw[XM,h k o]
 constructor
 ·rintro⟨h1,x,jl,h2,q,hq,h3⟩
  refine⟨x,Jd.2 ⟨jl,fun e=>?_⟩,h2,q,hq,h3⟩
  rw[hg.same jl hx e]at hq
  exact h1 q hq h3
 ·rintro⟨x,jl,h2,q,hq,h3⟩
  obtain⟨jl,hne⟩:=Jd.1 jl
  exact⟨fun q' hq' e=>hne (hg.apart x jl x0 hx q hq q' hq' (h3.symm.trans e)),x,jl,h2,q,hq,h3⟩
theorem ai6{NL zu:List (ByteArray×ByteArray)}{E E1:List Entry}{d:Entry}(h:vT NL E)(h1:vT zu E1)(hE:∀x∈E1,x∈E∧textOf x.name≠textOf d.name)(hf:uy NL (textOf d.name) (iM d)) :
  vT (zt zu (textOf d.name) (iM d)) (E1++[d]):=by
 intro k o
 rw[XN,h1 k o]
 constructor
 ·rintro(⟨rfl,q,hq,rfl⟩|⟨h2,x,hx,h3⟩)
  ·exact⟨d,by simp,rfl,q,hq,rfl⟩
  ·exact⟨x,List.mem_append_left _ hx,h3⟩
 ·rintro⟨x,hx,rfl,q,hq,rfl⟩
  rcases List.mem_append.1 hx with hx|hx
  ·refine .inr ⟨fun q' hq' e=>?_,x,hx,rfl,q,hq,rfl⟩
   have hm:(textOf q',textOf x.name)∈NL:=(h _ _).2 ⟨x,(hE x hx).1,rfl,q,hq,e.symm⟩
   exact(hE x hx).2 (hf q' hq' _ hm)
  ·simp only[List.mem_singleton]at hx
   subst hx
   exact .inl ⟨rfl,q,hq,rfl⟩
theorem ai7{NL:List (ByteArray×ByteArray)}{E E1:List Entry}{d:Entry}(h:vT NL E)(hg:gy E)(hv:bF d=true)(hE:∀x∈E1,x∈E∧textOf x.name≠textOf d.name)(hn:(E1.map fun x=>textOf x.name).Nodup)(hf:uy NL (textOf d.name) (iM d)):gy (E1++[d]):=by
 have key:∀x∈E1,∀q∈iM x,∀q'∈iM d,textOf q=textOf q'→False:=fun x hx q hq q' hq' e=>by
  have hm:(textOf q',textOf x.name)∈NL:=(h _ _).2 ⟨x,(hE x hx).1,rfl,q,hq,e.symm⟩
  exact(hE x hx).2 (hf q' hq' _ hm)
 refine⟨fun x hx=>?_,?_,fun x hx y hy q hq q' hq' e=>?_⟩
 ·rcases List.mem_append.1 hx with hx|hx
  ·exact hg.ok x (hE x hx).1
  ·simp only[List.mem_singleton]at hx;subst hx;exact hv
 ·rw[List.map_append]
  refine List.nodup_append.2 ⟨hn,by simp,?_⟩
  intro a ha c hc e
  simp only[List.map_cons,List.map_nil,List.mem_singleton]at hc
  obtain⟨x,hx,rfl⟩:=List.mem_map.1 ha
  exact(hE x hx).2 (e.trans hc)
 ·rcases List.mem_append.1 hx with hx1|hx1<;>rcases List.mem_append.1 hy with hy1|hy1
  ·exact hg.apart x (hE x hx1).1 y (hE y hy1).1 q hq q' hq' e
  ·simp only[List.mem_singleton]at hy1;subst hy1
   exact(key x hx1 q hq q' hq' e).elim
  ·simp only[List.mem_singleton]at hx1;subst hx1
   exact(key y hy1 q' hq' q hq e.symm).elim
  ·simp only[List.mem_singleton]at hx1 hy1;rw[hx1,hy1]
theorem Je{p q:aB}(hp:bD p=true)(hq:bD q=true):bn p q=true↔textOf p=textOf q:=(Nq (xB hp) (xB hq)).symm
theorem XQ{x d:Entry}(hx:bF x=true)(hd:bF d=true):iF x d=true↔∃q∈iM x,∃q'∈iM d,textOf q=textOf q':=by
 have qx:=vU hx
 have hdn:=vU hd
 have one:∀p∈iM d,(lV x p=true↔∃q∈iM x,textOf q=textOf p):=fun p hp=>by
  unfold lV
  rw[Bool.or_eq_true,List.any_eq_true]
  constructor
  ·rintro(⟨q,hq,e⟩|e)
   ·exact⟨q,List.mem_cons_of_mem _ hq,(Je (qx q (List.mem_cons_of_mem _ hq)) (hdn p hp)).1 e⟩
   ·exact⟨x.name,List.mem_cons_self ..,(Je (qx _ (List.mem_cons_self ..)) (hdn p hp)).1 e⟩
  ·rintro⟨q,hq,e⟩
   have e':=(Je (qx q hq) (hdn p hp)).2 e
   rcases List.mem_cons.1 hq with rfl|hq
   ·exact .inr e'
   ·exact .inl ⟨q,hq,e'⟩
 unfold iF
 rw[Bool.or_eq_true,List.any_eq_true]
 constructor
 ·rintro(h|⟨p,hp,h⟩)
  ·obtain⟨q,hq,e⟩:=(one _ (List.mem_cons_self ..)).1 h
   exact⟨q,hq,_,List.mem_cons_self ..,e⟩
  ·obtain⟨q,hq,e⟩:=(one p (List.mem_cons_of_mem _ hp)).1 h
   exact⟨q,hq,p,List.mem_cons_of_mem _ hp,e⟩
 ·rintro⟨q,hq,p,hp,e⟩
  have:=(one p hp).2 ⟨q,hq,e⟩
  rcases List.mem_cons.1 hp with rfl|hp
  ·exact .inl this
  ·exact .inr ⟨p,hp,this⟩
theorem XR{NL:List (ByteArray×ByteArray)}{E:List Entry}{d:Entry}(h:vT NL E)(hg:gy E)(hd:bF d=true):IV NL d↔∃x∈E,iF x d=true∧textOf x.name≠textOf d.name:=by
 constructor
 ·rintro⟨q,hq,o,hm,hne⟩
  obtain⟨x,hx,rfl,q',hq',e⟩:=(h _ _).1 hm
  exact⟨x,hx,(XQ (hg.ok x hx) hd).2 ⟨q',hq',q,hq,e.symm⟩,hne⟩
 ·rintro⟨x,hx,hb,hne⟩
  obtain⟨q,hq,q',hq',e⟩:=(XQ (hg.ok x hx) hd).1 hb
  exact⟨q',hq',textOf x.name,(h _ _).2 ⟨x,hx,rfl,q,hq,e.symm⟩,hne⟩
theorem OC{NL:List (ByteArray×ByteArray)}{d:Entry}:uy NL (textOf d.name) (iM d)↔¬IV NL d:=by
 constructor
 ·rintro h ⟨q,hq,o,hm,hne⟩
  exact hne (h q hq o hm)
 ·intro h q hq o hm
  exact Classical.byContradiction fun hne=>h ⟨q,hq,o,hm,hne⟩
theorem XT{E:List Entry}(hg:gy E){d:Entry}(hd:bF d=true) :
  (idxOf (fun z=>bn z.name d.name) E=-1∧∀x∈E,textOf x.name≠textOf d.name)∨
  ∃i,∃hi:i<E.length,idxOf (fun z=>bn z.name d.name) E=(i:Int)∧textOf E[i].name=textOf d.name:=by
 have st:∀x∈E,(bn x.name d.name=true↔textOf x.name=textOf d.name):=fun x hx=>Je (vU (hg.ok x hx) _ (List.mem_cons_self ..)) (vU hd _ (List.mem_cons_self ..))
 unfold idxOf
 cases hf:E.findIdx? (fun z=>bn z.name d.name)with
 |none=>
  refine .inl ⟨rfl,fun x hx e=>?_⟩
  have:=(List.findIdx?_eq_none_iff.1 hf) x hx
  rw[(st x hx).2 e]at this;cases this
 |some i=>
  obtain⟨hi,h1,-⟩:=List.findIdx?_eq_some_iff_getElem.1 hf
  exact .inr ⟨i,hi,rfl,(st _ (List.getElem_mem hi)).1 h1⟩
theorem XU{E:List Entry}(hn:(E.map fun x=>textOf x.name).Nodup){i:Nat}(hi:i<E.length):E.eraseIdx i=jK E (textOf E[i].name):=by
 induction E generalizing i with
 |nil=>simp at hi
 |cons x E ih=>
  simp only[List.map_cons,List.nodup_cons]at hn
  cases i with
  |zero=>
   have:jK (x::E) (textOf x.name)=E:=by
    unfold jK
    rw[List.filter_cons_of_neg (by simp)]
    exact List.filter_eq_self.2 fun y hy=>by
     have:¬textOf y.name=textOf x.name:=fun e=>hn.1 (List.mem_map.2 ⟨y,hy,e⟩)
     simp[this]
   simpa using this.symm
  |succ i=>
   have hi':i<E.length:=by simpa using hi
   have hne:¬textOf x.name=textOf E[i].name:=fun e=>hn.1 (List.mem_map.2 ⟨E[i],List.getElem_mem hi',e.symm⟩)
   simp only[List.eraseIdx_cons_succ,List.getElem_cons_succ]
   rw[ih hn.2 hi']
   unfold jK
   rw[List.filter_cons_of_pos (by simp[hne])]
theorem Bz{E:List Entry}(hg:gy E){i j:Nat}(hi:i<E.length)(hj:j<E.length)(e:textOf E[i].name=textOf E[j].name):i=j:=by
 exact Jc hg.nodup (i:=i) (j:=j) (by simpa using hi) (by simpa using hj) (by simpa using e)
theorem XV(f:Nat→Prop):∀n,(∃i,i<n∧f i)→∃i,i<n∧f i∧∀j,j<i→¬f j:=by
 intro n
 induction n with
 |zero=>rintro⟨i,h,_⟩;omega
 |succ n ih=>
  rintro⟨i,h,hf⟩
  by_cases hn:∃i,i<n∧f i
  ·obtain⟨j,h1,h2,h3⟩:=ih hn
   exact⟨j,by omega,h2,h3⟩
  ·exact⟨i,h,hf,fun j hj hfj=>hn ⟨j,by omega,hfj⟩⟩
inductive ai8(E:List Entry)(d:Entry):Prop where
 |busy (at0:Int) (jb:Nat) (h:jb<E.length) (hat:idxOf (fun z=>bn z.name d.name) E=at0) (hb:iF E[jb] d=true) (hpre:∀i (h:i<E.length),i<jb→iF E[i] d=true→(i:Int)=at0) (hn:¬(jb:Int)=at0) (hx:∃x∈E,iF x d=true∧textOf x.name≠textOf d.name)
 |new (hat:idxOf (fun z=>bn z.name d.name) E=-1) (hnb:∀i (h:i<E.length),iF E[i] d=true→(i:Int)=-1) (hno:∀x∈E,textOf x.name≠textOf d.name) (hx:∀x∈E,iF x d=true→textOf x.name=textOf d.name)
 |old (i0:Nat) (h:i0<E.length) (hat:idxOf (fun z=>bn z.name d.name) E=(i0:Int)) (hnb:∀i (h:i<E.length),iF E[i] d=true→(i:Int)=(i0:Int)) (he:textOf E[i0].name=textOf d.name) (hx:∀x∈E,iF x d=true→textOf x.name=textOf d.name)
theorem ai9{E:List Entry}(hg:gy E){d:Entry}(hd:bF d=true):ai8 E d:=by
 by_cases hx:∃x∈E,iF x d=true∧textOf x.name≠textOf d.name
 ·have hat:∃at0:Int,idxOf (fun z=>bn z.name d.name) E=at0∧∀i (h:i<E.length),((i:Int)=at0↔textOf E[i].name=textOf d.name):=by
   rcases XT hg hd with⟨h1,h2⟩|⟨i0,hi0,h1,h2⟩
   ·exact⟨-1,h1,fun i hi=>⟨fun e=>by omega,fun e=>absurd e (h2 _ (List.getElem_mem hi))⟩⟩
   ·refine⟨i0,h1,fun i hi=>⟨fun e=>?_,fun e=>?_⟩⟩
    ·obtain rfl:i=i0:=by omega
     exact h2
    ·rw[Bz hg hi hi0 (e.trans h2.symm)]
  obtain⟨at0,h1,h2⟩:=hat
  obtain⟨x,jl,hxb,qx⟩:=hx
  obtain⟨j,hj,rfl⟩:=List.mem_iff_getElem.1 jl
  obtain⟨jb,hjb,⟨hl,hb,hne⟩,hpre⟩:=XV (fun i=>∃h:i<E.length,iF E[i] d=true∧¬(i:Int)=at0) E.length ⟨j,hj,hj,hxb,fun e=>qx ((h2 j hj).1 e)⟩
  exact .busy at0 jb hl h1 hb (fun i hi hij hbi=>Classical.byContradiction fun hn=>hpre i hij ⟨hi,hbi,hn⟩) hne ⟨E[j],List.getElem_mem hj,hxb,qx⟩
 ·have hx':∀x∈E,iF x d=true→textOf x.name=textOf d.name:=fun x jl hb=>Classical.byContradiction fun hn=>hx ⟨x,jl,hb,hn⟩
  rcases XT hg hd with⟨h1,h2⟩|⟨i0,hi0,h1,h2⟩
  ·exact .new h1 (fun i hi hb=>absurd (hx' _ (List.getElem_mem hi) hb) (h2 _ (List.getElem_mem hi))) h2 hx'
  ·refine .old i0 hi0 h1 (fun i hi hb=>?_) h2 hx'
   rw[Bz hg hi hi0 ((hx' _ (List.getElem_mem hi) hb).trans h2.symm)]
def lF(at_:Int):Nat→List ah→List ah
 |_,[]=>[]
 |k,q::l=>(if(k:Int) != at_ then [q]else [])++lF at_ (k+1) l
theorem zx(p:ah)(at_:Int):∀(l:List ah) (k:Nat) (dn:Bool),(dY p at_ k dn l).Perm ((if dn then []else [p])++lF at_ k l)
 | [],_,dn=>by cases dn<;>simp[dY,lF]
 |q::l,k,dn=>by
  unfold dY lF
  generalize (if(k:Int) != at_ then [q]else [])=M
  cases dn with
  |true=>
   have:=zx p at_ l (k+1) true
   simpa using this.append_left M
  |false=>
   cases qw p.name q.name with
   |true=>
    have:=zx p at_ l (k+1) true
    simpa using this.append_left M
   |false=>
    have:=(zx p at_ l (k+1) false).append_left M
    simp only[Bool.not_false,Bool.true_and,Bool.or_false,Bool.false_eq_true,if_false,List.nil_append]at this ⊢
    exact this.trans (by simp)
theorem OD:∀(l:List ah) (k:Nat),lF (-1) k l=l
 | [],_=>rfl
 |q::l,k=>by
  unfold lF
  rw[OD l (k+1)]
  have:((k:Int) != -1)=true:=by simp
  rw[this];rfl
theorem XW:∀(l:List ah) (k:Nat) (at_:Int),at_<(k:Int)→lF at_ k l=l
 | [],_,_,_=>rfl
 |q::l,k,at_,h=>by
  unfold lF
  rw[XW l (k+1) at_ (by omega)]
  have:((k:Int) != at_)=true:=by simp;omega
  rw[this];rfl
theorem OE:∀(l:List ah) (k i:Nat),lF ((k+i:Nat):Int) k l=l.eraseIdx i
 | [],_,_=>rfl
 |q::l,k,0=>by
  unfold lF
  rw[XW l (k+1) _ (by omega)]
  simp
 |q::l,k,i+1=>by
  unfold lF
  have:=OE l (k+1) i
  rw[show k+1+i=k+(i+1) by omega]at this
  rw[this]
  have:((k:Int) != ((k+(i+1):Nat):Int))=true:=by simp;omega
  rw[this];rfl
theorem Jf{α:Type}(f:α→ByteArray){E:List α}(hn:(E.map f).Nodup){i:Nat}(hi:i<E.length):E.eraseIdx i=E.filter fun x=>decide (f x≠f E[i]):=by
 induction E generalizing i with
 |nil=>simp at hi
 |cons x E ih=>
  simp only[List.map_cons,List.nodup_cons]at hn
  cases i with
  |zero=>
   simp only[List.eraseIdx_zero,List.tail_cons,List.getElem_cons_zero]
   rw[List.filter_cons_of_neg (by simp)]
   exact(List.filter_eq_self.2 fun y hy=>by
    have:¬f y=f x:=fun e=>hn.1 (List.mem_map.2 ⟨y,hy,e⟩)
    simp[this]).symm
  |succ i=>
   have hi':i<E.length:=by simpa using hi
   have hne:¬f x=f E[i]:=fun e=>hn.1 (List.mem_map.2 ⟨E[i],List.getElem_mem hi',e.symm⟩)
   simp only[List.eraseIdx_cons_succ,List.getElem_cons_succ]
   rw[ih hn.2 hi',List.filter_cons_of_pos (by simp[hne])]
theorem XX(q:ah):∀(P:List ah),(P.map (·.name)).Nodup→P.any (fun x=>decide (x.name=q.name))=true→(P.map (fun x=>if x.name=q.name then q else x)).Perm (q::P.filter fun x=>decide (x.name≠q.name))
 | [],_,h=>by simp at h
 |x::P,hn,h=>by
  simp only[List.map_cons,List.nodup_cons]at hn
  by_cases hx:x.name=q.name
  ·have h1:P.map (fun x=>if x.name=q.name then q else x)=P:=by
    conv=>rhs;rw[←List.map_id P]
    refine List.map_congr_left fun y hy=>?_
    have:¬y.name=q.name:=fun e=>hn.1 (List.mem_map.2 ⟨y,hy,e.trans hx.symm⟩)
    simp[this]
   have h2:(P.filter fun x=>decide (x.name≠q.name))=P:=List.filter_eq_self.2 fun y hy=>by
    have:¬y.name=q.name:=fun e=>hn.1 (List.mem_map.2 ⟨y,hy,e.trans hx.symm⟩)
    simp[this]
   rw[List.map_cons,h1,if_pos hx,List.filter_cons_of_neg (by simp[hx]),h2]
  ·have h':P.any (fun x=>decide (x.name=q.name))=true:=by simpa[hx]using h
   rw[List.map_cons,if_neg hx,List.filter_cons_of_pos (by simp[hx])]
   exact((XX q P hn.2 h').cons x).trans (List.Perm.swap _ _ _)
structure lZ(P L:List ah):Prop where
 perm:P.Perm L
 nodup:(L.map (·.name)).Nodup
 ok:∀q∈L,dN q=true
theorem lZ.nil:lZ [] []:=⟨List.Perm.refl _,by simp,by simp⟩
theorem lZ.any{P L:List ah}(h:lZ P L)(k:ByteArray):P.any (fun x=>decide (x.name=k))=L.any (fun x=>decide (x.name=k)):=by
 rw[Bool.eq_iff_iff,List.any_eq_true,List.any_eq_true]
 exact⟨fun⟨x,hx,e⟩=>⟨x,h.perm.mem_iff.1 hx,e⟩,fun⟨x,hx,e⟩=>⟨x,h.perm.mem_iff.2 hx,e⟩⟩
theorem BA(L:List ah)(k:ByteArray):(idxOf (fun z=>decide (z.name=k)) L=-1∧L.any (fun x=>decide (x.name=k))=false)∨∃i,∃hi:i<L.length,idxOf (fun z=>decide (z.name=k)) L=(i:Int)∧L[i].name=k∧L.any (fun x=>decide (x.name=k))=true:=by
 unfold idxOf
 cases hf:L.findIdx? (fun z=>decide (z.name=k))with
 |none=>
  refine .inl ⟨rfl,?_⟩
  rw[List.any_eq_false]
  intro x hx
  have:=(List.findIdx?_eq_none_iff.1 hf) x hx
  simp[this]
 |some i=>
  obtain⟨hi,h1,-⟩:=List.findIdx?_eq_some_iff_getElem.1 hf
  exact .inr ⟨i,hi,rfl,by simpa using h1,List.any_eq_true.2 ⟨L[i],List.getElem_mem hi,h1⟩⟩
theorem lZ.new{P L:List ah}(h:lZ P L){q:ah}(hq:dN q=true)(hn:L.any (fun x=>decide (x.name=q.name))=false):lZ (qj P q) (dY q (-1) 0 false L):=by
 have hp:=zx q (-1) L 0 false
 rw[OD]at hp
 have hpp:(dY q (-1) 0 false L).Perm (q::L):=hp
 have hset:qj P q=P++[q]:=by
  unfold qj
  rw[if_neg (by rw[h.any,hn];simp)]
 refine⟨?_,(hpp.map _).nodup_iff.2 ?_,fun x hx=>?_⟩
 ·rw[hset]
  exact(List.perm_append_singleton q P).trans ((h.perm.cons q).trans hpp.symm)
 ·rw[List.map_cons,List.nodup_cons]
  refine⟨fun hm=>?_,h.nodup⟩
  obtain⟨x,hx,e⟩:=List.mem_map.1 hm
  have:=List.any_eq_false.1 hn x hx
  simp[e]at this
 ·rcases List.mem_cons.1 (hpp.mem_iff.1 hx)with rfl|hx
  ·exact hq
  ·exact h.ok x hx
theorem lZ.old{P L:List ah}(h:lZ P L){q:ah}(hq:dN q=true){i:Nat}(hi:i<L.length)(hn:L[i].name=q.name):lZ (qj P q) (dY q (i:Int) 0 false L):=by
 have hp:=zx q (i:Int) L 0 false
 have hr:=OE L 0 i
 rw[Nat.zero_add]at hr
 rw[hr,Jf (·.name) h.nodup hi,hn]at hp
 have hpp:(dY q (i:Int) 0 false L).Perm (q::L.filter fun x=>decide (x.name≠q.name)):=hp
 have ha:P.any (fun x=>decide (x.name=q.name))=true:=by rw[h.any];exact List.any_eq_true.2 ⟨L[i],List.getElem_mem hi,by simpa using hn⟩
 have hset:qj P q=P.map (fun x=>if x.name=q.name then q else x):=by
  unfold qj
  rw[if_pos ha]
 have hPn:(P.map (·.name)).Nodup:=(h.perm.map _).nodup_iff.2 h.nodup
 refine⟨?_,(hpp.map _).nodup_iff.2 ?_,fun x hx=>?_⟩
 ·rw[hset]
  exact(XX q P hPn ha).trans (((h.perm.filter _).cons q).trans hpp.symm)
 ·rw[List.map_cons,List.nodup_cons]
  refine⟨fun hm=>?_,(List.filter_sublist.map _).nodup h.nodup⟩
  obtain⟨x,hx,e⟩:=List.mem_map.1 hm
  have:=(List.mem_filter.1 hx).2
  simp[e]at this
 ·rcases List.mem_cons.1 (hpp.mem_iff.1 hx)with rfl|hx
  ·exact hq
  ·exact h.ok x (List.mem_filter.1 hx).1
end Go.WW
