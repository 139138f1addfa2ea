/- A part of the proof. -/
import Derived.Test.YtfieenjdcpjmgaaGreatDoorA19
import Derived.Test.YtfieenjdcpjmgaaGreatDoorA20
import Derived.Test.YtfieenjdcpjmgaaGreatDoorA18
import Derived.Test.YtfieenjdcpjmgaaGreatDoorA09
set_option maxRecDepth 100000
set_option maxHeartbeats 2000000
namespace Go.WW
open Go.RowKit
theorem Wy{L:List ah}(hn:(L.map (·.name)).Nodup){i j:Nat}(hi:i<L.length)(hj:j<L.length)(e:L[i].name=L[j].name):i=j:=
 Hg hn (i:=i) (j:=j) (by simpa using hi) (by simpa using hj) (by simpa using e)
theorem AU{L:List ah}{k:ByteArray}{i:Nat}(hi:i<L.length)(e:L[i].name=k):L.any (fun x=>decide (x.name=k))=true:=
 List.any_eq_true.2 ⟨_,List.getElem_mem hi,by simpa using e⟩
theorem ajj{D D1 D2:Db}{q:ah}{n1 n2:Int}(hn:(D.ax.map (·.name)).Nodup)(h1:mQ D q n1 D1)(h2:mQ D q n2 D2):n1=n2∧D1=D2:=by
 cases h1 with
 |bad hv=>
  cases h2 with
  |bad=>exact⟨rfl,rfl⟩
  |new hv'=>rw[hv]at hv';cases hv'
  |old hv'=>rw[hv]at hv';cases hv'
 |new hv ha=>
  cases h2 with
  |bad hv'=>rw[hv]at hv';cases hv'
  |new=>exact⟨rfl,rfl⟩
  |old hv' i hi hnm=>rw[AU hi hnm]at ha;cases ha
 |old hv i hi hnm=>
  cases h2 with
  |bad hv'=>rw[hv]at hv';cases hv'
  |new hv' ha=>rw[AU hi hnm]at ha;cases ha
  |old hv' j hj hnm'=>
   obtain rfl:=Wy hn hi hj (hnm.trans hnm'.symm)
   exact⟨rfl,rfl⟩
theorem Hz{L:List ah}{d:Entry}(h:mP L d)(hpe:¬d.aO=⟨#[]⟩)(hn:L.any (fun x=>decide (x.name=d.aO))=false):False:=by
 rcases h with h|h
 ·exact hpe h
 ·rw[hn]at h;cases h
theorem ajk{D D1 D2:Db}{X X1 X2:List EE}{r:aN}{d:Entry}{n1 n2:Int}(hg:gW (X.map (·.2)))(h1:kM D X r d n1 D1 X1)(h2:kM D X r d n2 D2 X2):n1=n2∧D1=D2∧X1=X2:=by
 cases h1 with
 |bad hv=>
  cases h2 with
  |bad=>exact⟨rfl,rfl,rfl⟩
  |ui hv' hre=>rcases hv with h|h;rw[h]at hv';cases hv';exact absurd hre h
  |busy hv' hre=>rcases hv with h|h;rw[h]at hv';cases hv';exact absurd hre h
  |put hv' hre=>rcases hv with h|h;rw[h]at hv';cases hv';exact absurd hre h
 |ui hv hre hpe hn=>
  cases h2 with
  |bad hv'=>rcases hv' with h|h;rw[h]at hv;cases hv;exact absurd hre h
  |ui=>exact⟨rfl,rfl,rfl⟩
  |busy _ _ hp=>exact(Hz hp hpe hn).elim
  |put _ _ hp=>exact(Hz hp hpe hn).elim
 |busy hv hre hp hx=>
  cases h2 with
  |bad hv'=>rcases hv' with h|h;rw[h]at hv;cases hv;exact absurd hre h
  |ui _ _ hpe hn=>exact(Hz hp hpe hn).elim
  |busy=>exact⟨rfl,rfl,rfl⟩
  |put _ _ _ hx'=>obtain⟨x,MB,hb,hne⟩:=hx;exact absurd (hx' x MB hb) hne
 |put hv hre hp hx A hs hA=>
  cases h2 with
  |bad hv'=>rcases hv' with h|h;rw[h]at hv;cases hv;exact absurd hre h
  |ui _ _ hpe hn=>exact(Hz hp hpe hn).elim
  |busy _ _ _ hx'=>obtain⟨x,MB,hb,hne⟩:=hx';exact absurd (hx x MB hb) hne
  |put _ _ _ _ B hs' hB=>
   obtain rfl:=ai1 hg (A:=A) (B:=B) (fun x hx=>hs.mem hx) (fun x hx=>hs'.mem hx) (hA.trans hB.symm)
   exact⟨rfl,rfl,rfl⟩
theorem MC{x:Entry}{q:az}(hx:bT x=true):aX x.name q=true↔textOf x.name=eP q:=
 (DK (rJ hx _ (List.mem_cons_self ..))).symm
theorem ajl{X:List EE}{q:az}(hg:gW (X.map (·.2))){i j:Nat}(hi:i<X.length)(hj:j<X.length)(h1:aX X[i].2.name q=true)(h2:aX X[j].2.name q=true):i=j:=by
 have a:=(MC (hg.ok _ (List.mem_map.2 ⟨_,List.getElem_mem hi,rfl⟩))).1 h1
 have b:=(MC (hg.ok _ (List.mem_map.2 ⟨_,List.getElem_mem hj,rfl⟩))).1 h2
 exact AB hg (i:=i) (j:=j) (by simpa using hi) (by simpa using hj) (by simpa using a.trans b.symm)
theorem ajm{D D1 D2:Db}{X X1 X2:List EE}{q:az}{n1 n2:Int}(hg:gW (X.map (·.2)))(h1:rM D X q n1 D1 X1)(h2:rM D X q n2 D2 X2):n1=n2∧D1=D2∧X1=X2:=by
 cases h1 with
 |none hn=>
  cases h2 with
  |none=>exact⟨rfl,rfl,rfl⟩
  |yes i hi hs=>rw[hn _ (List.getElem_mem hi)]at hs;cases hs
 |yes i hi hs=>
  cases h2 with
  |none hn=>rw[hn _ (List.getElem_mem hi)]at hs;cases hs
  |yes j hj hs'=>
   obtain rfl:=ajl hg hi hj hs hs'
   exact⟨rfl,rfl,rfl⟩
theorem ajn{D D1 D2:Db}{X X1 X2:List EE}{q:az}{f a b n1 n2:Int}(h1:uk D X q f a b n1 D1 X1)(h2:uk D X q f a b n2 D2 X2):n1=n2∧D1=D2∧X1=X2:=by
 cases h1 with
 |bad hv=>
  cases h2 with
  |bad=>exact⟨rfl,rfl,rfl⟩
  |none hv'=>rw[hv]at hv';cases hv'
  |yes hv'=>rw[hv]at hv';cases hv'
 |none hv hn=>
  cases h2 with
  |bad hv'=>rw[hv]at hv';cases hv'
  |none=>exact⟨rfl,rfl,rfl⟩
  |yes _ i hi hs=>rw[hn _ (List.getElem_mem hi)]at hs;cases hs
 |yes hv i hi hs=>
  cases h2 with
  |bad hv'=>rw[hv]at hv';cases hv'
  |none _ hn=>rw[hn _ (List.getElem_mem hi)]at hs;cases hs
  |yes=>exact⟨rfl,rfl,rfl⟩
theorem ajo{D D1 D2:Db}{k:ByteArray}{n1 n2:Int}(hn:(D.ax.map (·.name)).Nodup)(h1:qj D k n1 D1)(h2:qj D k n2 D2):n1=n2∧D1=D2:=by
 cases h1 with
 |none ha=>
  cases h2 with
  |none=>exact⟨rfl,rfl⟩
  |busy i hi hnm=>rw[AU hi hnm]at ha;cases ha
  |yes i hi hnm=>rw[AU hi hnm]at ha;cases ha
 |busy i hi hnm hb=>
  cases h2 with
  |none ha=>rw[AU hi hnm]at ha;cases ha
  |busy=>exact⟨rfl,rfl⟩
  |yes j hj hnm' hb'=>obtain⟨x,hx,e⟩:=hb;exact absurd e (hb' x hx)
 |yes i hi hnm hb=>
  cases h2 with
  |none ha=>rw[AU hi hnm]at ha;cases ha
  |busy j hj hnm' hb'=>obtain⟨x,hx,e⟩:=hb';exact absurd e (hb x hx)
  |yes j hj hnm'=>
   obtain rfl:=Wy hn hi hj (hnm.trans hnm'.symm)
   exact⟨rfl,rfl⟩
theorem bJ.touched{w:World}{r:aN}{d:Entry}(h:bJ w r d)(k:ByteArray)(f a b:Int):bJ w r (jl k f a b d):=by
 unfold jl
 split
 ·exact⟨h.name,h.aliases,h.keys,h.targets,h.bu,h.history,h.aO,h.attrs⟩
 ·exact h
theorem lV.grow{S S':Nat→Prop}{w:World}{x:EE}(h:lV S w x)(hS:∀k,S' k→k<w.heap.size→S k):lV S' w x:=
 fun y hy=>h y ⟨hy.os,hy.tape,hy.output,hy.size,fun k hk hn=>hy.block k hk fun hs=>hn (hS k hs hk)⟩
theorem jJ.grow{S S':Nat→Prop}{w:World}{Φ:World→Prop}(h:jJ S w Φ)(hS:∀k,S' k→k<w.heap.size→S k):jJ S' w Φ:=
 fun y hy=>h y ⟨hy.os,hy.tape,hy.output,hy.size,fun k hk hn=>hy.block k hk fun hs=>hn (hS k hs hk)⟩
end Go.WW
namespace Go.Proofs.YtfieenjdcpjmgaaGreatDoor
open Go.RowKit Go.WW
def xm(S:Nat→Prop)(b n e p:Nat)(re:ByteArray)(s:Int)(D D':Db)(X':List EE)(no:Int)(w:World)(z:Ending)(w':World):Prop:=
 z=.returned (.int .i64 no)∧But (aU b n e p) w w'∧∃mV E' P',jB S b n e p re (s+(D'.ay-D.ay)) mV E' P' w'∧fJ D' X' mV E' P'
section
variable (S:Nat→Prop) (b n e p:Nat) (re:ByteArray) (s:Int) (NL:List (ByteArray×ByteArray)) (E:List EE) (P:List ah) (D D':Db) (X X':List EE) (no:Int) (w:World)
theorem yU(h:jB S b n e p re s NL E P w)(hr:fJ D X NL E P):∀(z:Ending) (w':World),(z=.returned (.int .i64 no)∧Below w.heap.size w w')→xm S b n e p re s D D X no w z w':=by
 rintro z w' ⟨rfl,hb⟩
 exact⟨rfl,But.of_below hb,NL,E,P,by rw[Int.sub_self,Int.add_zero];exact h.later hb,hr⟩
theorem WA(r:aN)(d:Entry)(r2:aN)(h:jB S b n e p re s NL E P w)(hre:¬re=⟨#[]⟩)(hDr:D.aF=re)(hr:fJ D X NL E P)(hst:kM D X r d no D' X')(he:bJ w r2 d)(hlt:∀k,S k→k<w.heap.size)(hn:X.length<4096)(hs0:0≤s)(hs1:s<1000000) :
  Calls Tryz.prog 23 #[.pointer (some ⟨b,0,none⟩),.agg (ae r2 d)] w (xm S b n e p re s D D' X' no w):=by
 have same:=yU S b n e p re s NL E P D X
 have hEl:E.length<4096:=by have:=hr.perm.length_eq;simp at this;omega
 have main:bT d=true→d.name.aF=D.aF→mP D.ax d→∃N1 E1,tV (fB NL) E (textOf d.name) N1 E1∧Calls Tryz.prog 23 #[.pointer (some ⟨b,0,none⟩),.agg (ae r2 d)] w (Vg b n e p re s NL N1 E1 P d w):=by
  intro hv hrl hp
  have hR:∃N1 E1,tV (fB NL) E (textOf d.name) N1 E1:=by
   by_cases hx:∃x∈E,textOf x.2.name=textOf d.name
   ·obtain⟨x,hx,e'⟩:=hx
    exact⟨_,_,.inl ⟨x,hx,e',rfl,rfl⟩⟩
   ·exact⟨_,_,.inr ⟨fun x hx' e'=>hx ⟨x,hx',e'⟩,rfl,rfl⟩⟩
  obtain⟨N1,E1,hR⟩:=hR
  refine⟨N1,E1,hR,ahU b n e p re s NL N1 E E1 P r2 d w h.db hre he (fun x hx=>⟨fun y hy=>h.keep x hx y (hy.mono h.sub),fun q hq=>rJ (hr.good.ok x.2 (List.mem_map.2 ⟨x,hx,rfl⟩)) q hq⟩) hR (fun q hq=>rJ hv q hq) hv (hrl.trans hDr) ?_ ?_ hEl hs0 hs1⟩
  ·rcases hp with hp|hp
   ·exact .inl hp
   ·exact .inr (by rw[hr.dQ.any];exact hp)
  ·intro k o o' ho ho'
   obtain⟨x,hx,rfl,q,hq,hk⟩:=(hr.names k o).1 ho
   obtain⟨y,hy,rfl,q',hq',hk'⟩:=(hr.names k o').1 ho'
   exact hr.good.apart x hx y hy q hq q' hq' (hk.symm.trans hk')
 cases hst with
 |bad hv=>
  rcases hv with hv|hv
  ·exact(U9 b n e p re s _ E P r2 d w h.db hre he hv).mono (same 2 w h hr)
  ·cases hv2:bT d with
   |false=>exact(U9 b n e p re s _ E P r2 d w h.db hre he hv2).mono (same 2 w h hr)
   |true=>exact(ahS b n e p re s _ E P r2 d w h.db hre he hv2 (by rw[←hDr];exact hv)).mono (same 2 w h hr)
 |ui hv hrl hpe ha=>exact(ahT b n e p re s _ E P r2 d w h.db hre he hv (hrl.trans hDr) hpe (by rw[hr.dQ.any];exact ha)).mono (same 9 w h hr)
 |busy hv hrl hp hx=>
  obtain⟨N1,E1,hR,hc⟩:=main hv hrl hp
  refine hc.mono ?_
  rintro z w' (⟨rfl,-,hb⟩|⟨-,hf,-⟩)
  ·exact same 11 w h hr _ _ ⟨rfl,hb⟩
  ·obtain⟨x,kS,hxb,qi⟩:=hx
   exact absurd ((VO hr.names hr.good hv).2 ⟨x,hr.perm.mem_iff.2 kS,hxb,qi⟩) (LX.1 hf)
 |put hv hrl hp hx X1 hs1' h1=>
  obtain⟨N1,E1,hR,hc⟩:=main hv hrl hp
  refine hc.mono ?_
  rintro z w' (⟨rfl,hbz,-⟩|⟨rfl,-,hb,r',hk',jR⟩)
  ·have hf:=(hr.put (r:=r) (r':=r) hv hp hx X1 hs1' h1 hR).1
   exact absurd hbz (LX.1 hf)
  ·obtain⟨-,mV,e1,hpl⟩:=hr.put (r:=r) (r':=r') hv hp hx X1 hs1' h1 hR
   rw[show d.name::d.aliases=iI d from rfl,e1]at jR
   refine⟨rfl,hb,mV,_,P,⟨by show bU _ _ _ _ _ _ (s+(D.ay+1-D.ay)) _ _ _;rw[show s+(D.ay+1-D.ay)=s+1 by omega];exact jR,fun x hx'=>?_,h.sub⟩,hpl⟩
   rcases List.mem_append.1 hx' with hx'|hx'
   ·have:x∈E:=ah9 hR x hx'
    exact(h.keep x this).on (hb.mono h.sub)
   ·simp only[List.mem_singleton]at hx';subst hx';exact fun y hy=>hk' y (hy.mono hlt)
theorem WB(q:ah)(h:jB S b n e p re s NL E P w)(hre:¬re=⟨#[]⟩)(hr:fJ D X NL E P)(hst:mQ D q no D')(hs:q.name.size≤lim)(hn:P.length<64)(hs0:0≤s)(hs1:s<1000000) :
  Calls Tryz.prog 29 #[.pointer (some ⟨b,0,none⟩),.agg (aG q)] w (xm S b n e p re s D D' X no w):=by
 have hD:=VZ hst
 have hkeep:=aiK hst hr.dQ.nodup
 have out:∀(D':Db),D'.entries=D.entries→D'.aF=D.aF→D'.ay=D.ay+1→(∀x∈D.ax,∃y∈D'.ax,y.name=x.name)→mO (pY P q) D'.ax→∀(z:Ending) (w':World),(z=.returned (.int .i64 0)∧But (aU b n e p) w w'∧bU w' b n e p re (s+1) (fB NL) E (pY P q))→
   xm S b n e p re s D D' X 0 w z w':=by
  rintro D' h1 h2 h3 h5 h4 z w' ⟨rfl,hb,hd⟩
  refine⟨rfl,hb,NL,E,_,⟨by rw[h3,show s+(D.ay+1-D.ay)=s+1 by omega];exact hd,fun x hx=>(h.keep x hx).on (hb.mono h.sub),h.sub⟩,⟨h1.trans hr.eq,hr.names,hr.good,hr.perm,hr.sorted,h4,fun x hx=>?_⟩⟩
  exact(hr.has x hx).mono h5
 cases hst with
 |bad hv=>exact(agW b n e p re s _ E P q w h.db hre hs hv).mono (yU S b n e p re s NL E P D X 2 w h hr)
 |new hv ha=>
  exact(agX b n e p re s _ E P q w h.db hre hs hv (by rw[hr.dQ.any];exact ha) hn hs0 hs1).mono (out {D with ax:=fC q (-1) 0 false D.ax,ay:=D.ay+1} rfl rfl rfl hkeep (hr.dQ.new hv ha))
 |old hv i hi hnm=>
  exact(agY b n e p re s _ E P q w h.db hre hs hv D.ax[i] (hr.dQ.perm.mem_iff.2 (List.getElem_mem hi)) hnm hs0 hs1).mono (out {D with ax:=fC q (i:Int) 0 false D.ax,ay:=D.ay+1} rfl rfl rfl hkeep (hr.dQ.old hv hi hnm))
theorem WC(t:Sl)(q:az)(h:jB S b n e p re s NL E P w)(hre:¬re=⟨#[]⟩)(hr:fJ D X NL E P)(hst:rM D X q no D' X')(hq:bz w t q)(hs0:0≤s)(hs1:s<1000000) :
  Calls Tryz.prog 28 #[.pointer (some ⟨b,0,none⟩),.agg (ai t q)] w (xm S b n e p re s D D' X' no w):=by
 cases hst with
 |none hn=>exact(ai7 b n e p re s _ E P t q w h.db hre hq (hr.Wl hn)).mono (yU S b n e p re s NL E P D X 9 w h hr)
 |yes i hi hn=>
  obtain⟨x0,hx0,hk,hpl⟩:=hr.Wn hi hn
  refine(ai8 b n e p re s _ E P t q w h.db hre hq (fun x hx=>⟨fun y hy=>h.keep x hx y (hy.mono h.sub),fun q hq=>rJ (hr.good.ok x.2 (List.mem_map.2 ⟨x,hx,rfl⟩)) q hq⟩) hs0 hs1 x0 hx0 hk).mono ?_
  rintro z w' ⟨rfl,hb,hd⟩
  rw[LW]at hd
  exact⟨rfl,hb,_,_,P,⟨by show bU _ _ _ _ _ _ (s+(D.ay+1-D.ay)) _ _ _;rw[show s+(D.ay+1-D.ay)=s+1 by omega];exact hd,fun x hx=>(h.keep x (List.mem_filter.1 hx).1).on (hb.mono h.sub),h.sub⟩,hpl⟩
theorem ajp(t:Sl)(q:az)(f la su:Int)(h:jB S b n e p re s NL E P w)(hre:¬re=⟨#[]⟩)(hr:fJ D X NL E P)(hst:uk D X q f la su no D' X')(hq:bz w t q)(hs0:0≤s)(hs1:s<1000000) :
  Calls Tryz.prog 37 #[.pointer (some ⟨b,0,none⟩),.agg (ai t q),.int .i64 f,.int .i64 la,.int .i64 su] w (xm S b n e p re s D D' X' no w):=by
 cases hst with
 |bad hv=>exact(ai9 b n e p re s _ E P t q f la su w h.db hre hv).mono (yU S b n e p re s NL E P D X 2 w h hr)
 |none hv hn=>exact(aja b n e p re s _ E P t q f la su w h.db hre hq hv (hr.Wl hn)).mono (yU S b n e p re s NL E P D X 9 w h hr)
 |yes hv i hi hn=>
  obtain⟨x0,hx0,hk,-⟩:=hr.Wn hi hn
  refine(ajb b n e p re s _ E P t q f la su w h.db hre hq hv hr.good hs0 hs1 x0 hx0 hk).mono ?_
  rintro z w' ⟨rfl,hb,hd⟩
  refine⟨rfl,hb,NL,_,P,⟨by show bU _ _ _ _ _ _ (s+(D.ay+1-D.ay)) _ _ _;rw[show s+(D.ay+1-D.ay)=s+1 by omega];exact hd,fun x hx=>?_,h.sub⟩,hr.touch (eP q) hv⟩
  obtain⟨z,hz,rfl⟩:=List.mem_map.1 hx
  exact fun y hy=>(h.keep z hz y ((hb.mono h.sub).trans hy)).touched _ _ _ _
theorem WE(k:ByteArray)(h:jB S b n e p re s NL E P w)(hre:¬re=⟨#[]⟩)(hr:fJ D X NL E P)(hst:qj D k no D')(hs0:0≤s)(hs1:s<1000000) :
  Calls Tryz.prog 30 #[.pointer (some ⟨b,0,none⟩),.string k] w (xm S b n e p re s D D' X no w):=by
 cases hst with
 |none ha=>exact(ajd b n e p re s _ E P k w h.db hre (by rw[hr.dQ.any];exact ha)).mono (yU S b n e p re s NL E P D X 9 w h hr)
 |busy i hi hnm hb=>
  subst hnm
  refine(aje b n e p re s _ E P D.ax[i] w h.db hre (hr.dQ.perm.mem_iff.2 (List.getElem_mem hi)) ?_).mono (yU S b n e p re s NL E P D X 11 w h hr)
  obtain⟨x,hx,ex⟩:=hb
  rw[hr.eq]at hx
  obtain⟨y,hy,ey⟩:=List.mem_map.1 (hr.perm.mem_iff.2 hx)
  exact⟨y,hy,by rw[ey];exact ex⟩
 |yes i hi hnm hb=>
  subst hnm
  refine(ajf b n e p re s _ E P D.ax[i] w h.db hre (hr.dQ.perm.mem_iff.2 (List.getElem_mem hi)) ?_ hs0 hs1).mono ?_
  ·intro x hx ex
   refine hb x.2 ?_ ex
   rw[hr.eq]
   exact hr.perm.mem_iff.1 (List.mem_map.2 ⟨x,hx,rfl⟩)
  ·rintro z w' ⟨rfl,hb',hd⟩
   exact⟨rfl,hb',NL,E,_,⟨by show bU _ _ _ _ _ _ (s+(D.ay+1-D.ay)) _ _ _;rw[show s+(D.ay+1-D.ay)=s+1 by omega];exact hd,fun x hx=>(h.keep x hx).on (hb'.mono h.sub),h.sub⟩,hr.aiV hi hb⟩
end
end Go.Proofs.YtfieenjdcpjmgaaGreatDoor
namespace Go.WW
open Go.RowKit
theorem MF{cs r:Array Value}{o n j:Nat}{v:Value}(h:eG cs o n=some r)(hj:j<n):eG (cs.setIfInBounds (o+j) v) o n=some (r.setIfInBounds j v):=by
 unfold eG at h ⊢
 rw[Array.size_setIfInBounds]
 split at h
 ·rename_i hle
  rw[if_pos hle]
  cases h
  congr 1
  apply Array.ext_getElem?
  intro i
  rw[Array.getElem?_setIfInBounds]
  by_cases hi:i<n
  ·rw[Array.getElem?_extract,Array.getElem?_extract,Array.getElem?_setIfInBounds]
   have e1:i<min (o+n) cs.size-o:=by omega
   have e2:i<min (o+n) (cs.setIfInBounds (o+j) v).size-o:=by rw[Array.size_setIfInBounds];omega
   simp only[e1,e2,if_true]
   by_cases e:j=i
   ·subst e
    rw[if_pos rfl,if_pos rfl,if_pos (by omega),if_pos (by simp;omega)]
   ·rw[if_neg (by omega),if_neg e]
  ·rw[Array.getElem?_eq_none (by simp;omega),if_neg (by omega),Array.getElem?_eq_none (by simp;omega)]
 ·cases h
theorem MG{cs:Array Value}{o n j:Nat}{v:Value}(hj:j<o∨o+n≤j):eG (cs.setIfInBounds j v) o n=eG cs o n:=by
 unfold eG
 rw[Array.size_setIfInBounds]
 split
 ·congr 1
  apply Array.ext_getElem?
  intro i
  rw[Array.getElem?_extract,Array.getElem?_extract,Array.getElem?_setIfInBounds,Array.size_setIfInBounds]
  split
  ·rw[if_neg (by omega)]
  ·rfl
 ·rfl
theorem gu.src{w:World}{a:Option Addr}{X:List EE}(h:gu w a X):cO w 17 a (X.map bY):=
 ⟨fun r hr=>by obtain⟨x,_,rfl⟩:=List.mem_map.1 hr;exact Cb _ _,fun r hr=>by obtain⟨x,_,rfl⟩:=List.mem_map.1 hr;exact Qp _ _,fun i hi=>by
  obtain⟨b,o,cs,ha,hr,x,hx,rfl⟩:=h.2 i (by simpa using hi)
  exact⟨b,o,ha,by rw[hr,List.getElem_map,(List.getElem?_eq_some_iff.1 hx).2]⟩⟩
theorem Own.cur{w:World}{base k:Nat}{e:TypeId}{s:Sl}{rows:List (Array Value)}(h:Own w base e k s rows)(hn:0<rows.length) :
  ∃g cur,s.a=some ⟨g,0,none⟩∧base≤g∧w.heap[g]?=some (.cells cur e)∧rows.length≤s.cap∧rows.length*k≤cur.size∧∀i (hi:i<rows.length),eG cur (i*k) k=some rows[i]:=by
 rcases h.own.2 with⟨_,hn'⟩|⟨g,cap,cur,hv,hb,hh,hle,_,hsz,_⟩
 ·omega
 ·have ha:s.a=some ⟨g,0,none⟩:=by injection hv
  have hc:s.cap=cap:=by injection hv
  refine⟨g,cur,ha,hb,hh,by omega,by rw[hsz];exact Nat.mul_le_mul_right _ hle,fun i hi=>?_⟩
  obtain⟨g',ha',-,hr⟩:=h.row i hi
  rw[ha]at ha';cases ha'
  rw[bP hh,Nat.zero_add]at hr
  exact hr
theorem ajq{cs r:Array Value}{o n:Nat}(h:eG cs o n=some r)(j:Nat)(hj:j<n):cs[o+j]?=r[j]?:=by
 unfold eG at h
 split at h
 ·cases h
  rw[Array.getElem?_extract]
  rw[if_pos (by omega)]
 ·cases h
theorem yV(w:World)(b o:Nat)(v:Value):But (one b) w (w.setCell ⟨b,o,Option.none⟩ v):=⟨rfl,rfl,rfl,by simp[World.setCell],fun k _ hn=>Below.heap_setCell _ _ _ _ (show k≠b from hn)⟩
theorem ajr{V:World}{g:Nat}{cur:Array Value}{t:TypeId}(h:V.heap[g]?=some (.cells cur t))(a b:Nat)(x y:Value):((V.setCell ⟨g,a,Option.none⟩ x).setCell ⟨g,b,Option.none⟩ y).drew.heap[g]?=some (.cells ((cur.setIfInBounds a x).setIfInBounds b y) t):=dF (o:=b) _ (dF (o:=a) _ h)
def xn(g:Nat):aN:={dh with parts:=⟨some ⟨g,0,none⟩,1⟩}
def ql(f a b:Int):Entry:={bI with name:=⟨[⟨#[97]⟩],⟨#[82]⟩⟩,fails:=f,eY:=a,gy:=b}
theorem MH{w:World}{g:Nat}{t:TypeId}(h:w.heap[g]?=some (.cells #[Value.string ⟨#[97]⟩] t))(f a b:Int):bJ w (xn g) (ql f a b):=by
 have hz:∀(k:Nat) (R:Nat→Array Value→Prop),aV w k none 0 R:=fun k R=>⟨Nat.zero_le _,fun i hi=>absurd hi (Nat.not_lt_zero _)⟩
 refine⟨⟨⟨show 1≤lim by decide,fun i hi=>?_⟩,show 1≤lim by decide⟩,hz _ _,hz _ _,hz _ _,hz _ _,⟨Nat.zero_le _,fun i hi=>absurd hi (Nat.not_lt_zero _)⟩,show 0≤lim by decide,show(0:Int)≤0∧(0:Int)≤4294967295 by decide⟩
 obtain rfl:i=0:=by
  have:i<1:=hi
  omega
 exact⟨g,0,.string ⟨#[97]⟩,rfl,by rw[(aC h).1];rfl,_,rfl,rfl,by decide⟩
theorem MI(f a b:Int):bT (ql f a b)=jZ f a b:=by
 have h0:bT (ql 0 0 0)=true:=by decide +kernel
 simp only[bT,jD,kF,ql,bI,Bool.and_eq_true]at h0
 simp only[bT,jD,kF,ql,bI,jZ,h0,Bool.true_and]
 rfl
theorem ajs{e q:Sl}{D D':Db}(h1:D.entries.length=D'.entries.length)(h2:D.aF=D'.aF)(h3:D.ay=D'.ay)(h4:D.ax=D'.ax):au e q D=au e q D':=by
 unfold au
 rw[h1,h2,h3,h4]
theorem ajt(x:EE)(f a b:Int):(((bY x).setIfInBounds 11 (.int .i64 f)).setIfInBounds 12 (.int .i64 a)).setIfInBounds 13 (.int .i64 b)=bY (x.1,touched x.2 f a b):=by
 rcases x with⟨r,d⟩
 kernel_rfl
theorem aju{cur:Array Value}{X:List EE}(i0:Nat)(hi0:i0<X.length)(f a b:Int)(h:∀i (hi:i<X.length),eG cur (i*17) 17=some (bY X[i])) :
  ∀i (hi:i<(X.set i0 (X[i0].1,touched X[i0].2 f a b)).length),eG (((cur.setIfInBounds (i0*17+11) (.int .i64 f)).setIfInBounds (i0*17+12) (.int .i64 a)).setIfInBounds (i0*17+13) (.int .i64 b)) (i*17) 17=some (bY ((X.set i0 (X[i0].1,touched X[i0].2 f a b))[i])):=by
 intro i hi
 have hi':i<X.length:=by simpa using hi
 rw[List.getElem_set]
 by_cases e:i0=i
 ·subst e
  rw[if_pos rfl,←ajt]
  exact MF (MF (MF (h i0 hi0) (by omega)) (by omega)) (by omega)
 ·rw[if_neg e,MG (by omega),MG (by omega),MG (by omega)]
  exact h i hi'
end Go.WW
namespace Go.Proofs.YtfieenjdcpjmgaaGreatDoor
open Go.RowKit Go.WW
theorem ajv(e q:Sl)(D:Db)(t:Sl)(pn:az)(w:World)(hq:bz w t pn)(hE:jy w e.a D.entries)(hi:idxOf (fun z=>aX z.name pn) D.entries=-1):Calls Tryz.prog 36 #[.agg (au e q D),.agg (ai t pn)] w fun x w'=>x=.returned (.tuple #[.agg (au e q D),.int .i64 9])∧Below w.heap.size w w':=by
 obtain⟨W,dD,hB,hx2,hx3,hz,hW⟩:=rH e q D (ai t pn) 40 w
 replace dD:=Lib.hid dD
 go_enter Tryz.func36,Tryz.ntmps36
 go_wp2_with fail
 rw[dD.out];clear dD
 refine(CY _ _ _ _ _ _ (hE.later hB) (hq.later hB)).mono ?_
 rintro x w1 ⟨rfl,hb1⟩
 rw[hi]
 have hs1:=hb1.size
 obtain⟨hc,hf,hr,hlt⟩:=aC (aJ hb1 hx2)
 obtain⟨hc3,hf3,hr3,hlt3⟩:=aC (aJ hb1 hx3)
 dsimp only
 have hlt4:w.heap.size+1+1<w1.heap.size:=by have:=hb1.size;omega
 have hz1:=(gI hb1 (w.heap.size+1+1) 0 4 (by omega)).trans hz
 have hne:w.heap.size+1+1≠w.heap.size:=by omega
 go_wp2_with fail
 have hrow:=iT (w:=w1) (jH e q D) hz1
 exact bodyPost_ret (kQ (by rfl) Tryz.underlying32 rfl (by kernel_rfl) rfl hrow) rfl ⟨rfl,Go.WW.Below.putRow (ag hB hb1) (by omega)⟩
theorem ajw(e q:Sl)(D:Db)(t:Sl)(pn:az)(w:World)(hq:bz w t pn)(X:List EE)(hX:gu w e.a X)(hm:∀x∈X,bJ w x.1 x.2)(hD:D.entries=X.map (·.2))(i0:Nat)(hi0:i0<X.length)(hat:idxOf (fun z=>aX z.name pn) D.entries=(i0:Int))(hs0:0≤D.ay)(hs1:D.ay<1000000):Calls Tryz.prog 36 #[.agg (au e q D),.agg (ai t pn)] w (He q D (X.eraseIdx i0) w):=by
 have hlen:D.entries.length=X.length:=by rw[hD];simp
 have hE:jy w e.a D.entries:=by rw[hD];exact hX.dK hm
 clear hD
 obtain⟨W,dD,hB,hx2,hx3,hz,hW⟩:=rH e q D (ai t pn) 40 w
 replace dD:=Lib.hid dD
 go_enter Tryz.func36,Tryz.ntmps36
 go_wp2_with fail
 rw[dD.out];clear dD
 refine(CY _ _ _ _ _ _ (hE.later hB) (hq.later hB)).mono ?_
 rintro x w1 ⟨rfl,hb1⟩
 rw[hat]
 have hs1':=hb1.size
 have hB1:=ag hB hb1
 obtain⟨hc,hf,hr,hlt⟩:=aC (aJ hb1 hx2)
 obtain⟨hc3,hf3,hr3,hlt3⟩:=aC (aJ hb1 hx3)
 have Ha:(D.ay+1).tmod 4611686018427387904=D.ay+1:=Int.tmod_eq_of_lt (by omega) (by omega)
 have hne1:w.heap.size+1≠w.heap.size:=by omega
 have hne2:w.heap.size+1+1≠w.heap.size:=by omega
 have Hf:¬(i0:Int)<0:=by omega
 have hcon:=TJ e.a e.cap X i0 w1 (hX.later hB1) hi0
 dsimp only
 go_wp2_with fail
 refine hcon.mono ?_
 rintro x w5 ⟨s5,rfl,hb5,hd5⟩
 have jk:=ag hb1 hb5
 clear hc hf hr hlt hc3 hf3 hr3 hlt3
 generalize hX5:X.eraseIdx i0=X5 at *
 have hy2:=aJ jk hx2
 have hs5:=hb5.size
 obtain⟨hc,hf,hr,hlt⟩:=aC hy2
 have hset:=dF (o:=1) (.int .i64 (D.ay+1)) (dF (o:=2) (.slice s5.a X5.length s5.cap) hy2)
 have Dz:row? ((w5.setCell ⟨w.heap.size,2,none⟩ (.slice s5.a X5.length s5.cap)).setCell ⟨w.heap.size,1,none⟩ (.int .i64 (D.ay+1))) w.heap.size 0 4=some (au s5 q {D with entries:=X5.map (·.2),ay:=D.ay+1}):=(bP hset).trans (by rw[show X5.length=(X5.map (·.2)).length from(List.length_map _).symm];kernel_rfl)
 have hcp:aQ ((w5.setCell ⟨w.heap.size,2,none⟩ (.slice s5.a X5.length s5.cap)).setCell ⟨w.heap.size,1,none⟩ (.int .i64 (D.ay+1))) (w.heap.size+1+1) 0 4=true:=(lQ hne2).trans ((lQ hne2).trans ((gI jk (w.heap.size+1+1) 0 4 (by omega)).trans hz))
 clear hr
 dsimp only
 go_wp2_with fail
 have hrow:=iT (jH s5 q {D with entries:=X5.map (·.2),ay:=D.ay+1}) hcp
 refine bodyPost_ret (kQ (by rfl) Tryz.underlying32 rfl (by kernel_rfl) rfl hrow) rfl ⟨s5,rfl,Go.WW.Below.putRow (((ag hB jk).setCell (by simp) _).setCell (by simp) _) (by omega),fun y hy=>hd5 _ (fun g hg=>?_)⟩
 have hg1:=hg.1
 have hg2:=hg.2
 rw[hy g ⟨by omega,by rw[kG];simp only[World.setCell,Array.size_modify];omega⟩,iD (by omega),Below.heap_setCell _ _ _ _ (show g≠w.heap.size by omega),Below.heap_setCell _ _ _ _ (show g≠w.heap.size by omega)]
theorem ajx(ρ:Operand→Value)(dst:Option Tmp)(a0 a1 a2 a3:Operand)(ty:TypeId)(pos:String)(after:Array Edge)(guard:Option (Nat×Bool)) :
  execOp ρ {dst,op:=.build 47 #[(0,a0),(10,a1),(11,a2),(12,a3)],type:=ty,pos,after,guard}=jf 47 #[(0,ρ a0),(10,ρ a1),(11,ρ a2),(12,ρ a3)]:=by simp[execOp,jf]
theorem ajy(g:Nat)(f a b:Int)(w:World):(jf 47 #[(0,.agg #[.slice (some ⟨g,0,none⟩) 1 1,.string ⟨#[82]⟩]),(10,.int .i64 f),(11,.int .i64 a),(12,.int .i64 b)]).run Tryz.prog w=.ok (.value (.agg (ae (xn g) (ql f a b)))) w:=by kernel_rfl
attribute [go_sem] ajy
attribute [go_sem ↓] ajx
theorem ajz(e q:Sl)(D:Db)(t:Sl)(pn:az)(w:World)(_hq:bz w t pn)(f la su:Int)(hv:jZ f la su=false):Calls Tryz.prog 38 #[.agg (au e q D),.agg (ai t pn),.int .i64 f,.int .i64 la,.int .i64 su] w fun x w'=>x=.returned (.tuple #[.agg (au e q D),.int .i64 2])∧Below w.heap.size w w':=by
 obtain⟨W,dD,hB,hx2,hx3,hz,hW⟩:=rH e q D (ai t pn) 40 w
 replace dD:=Lib.hid dD
 go_enter Tryz.func38,Tryz.ntmps38
 go_wp2_with fail
 rw[dD.out];clear dD
 have hp1:=jQ W (.cells #[Value.string ⟨#[97]⟩] 9) (.cells (ae (xn (w.heap.size+1+1+1)) (ql f la su)) 47)
 rw[hW]at hp1
 have fV:Below W.heap.size W ((W.alloc (.cells #[Value.string ⟨#[97]⟩] 9)).alloc (.cells (ae (xn (w.heap.size+1+1+1)) (ql f la su)) 47)):=aj (aj (Below.refl _ W) _) _
 refine(yN _ _ _ (MH hp1 f la su) false ((MI f la su).trans hv)).mono ?_
 rintro x w0 ⟨rfl,hb0⟩
 have hb1:=ag fV hb0
 clear hb0 fV hp1
 have hs1':=hb1.size
 obtain⟨hc,hf,hr,hlt⟩:=aC (aJ hb1 hx2)
 obtain⟨hc3,hf3,hr3,hlt3⟩:=aC (aJ hb1 hx3)
 dsimp only
 have hlt4:w.heap.size+1+1<w0.heap.size:=by have:=hb1.size;omega
 have hz1:=(gI hb1 (w.heap.size+1+1) 0 4 (by omega)).trans hz
 have hne:w.heap.size+1+1≠w.heap.size:=by omega
 go_wp2_with fail
 have hrow:=iT (w:=w0) (jH e q D) hz1
 exact bodyPost_ret (kQ (by rfl) Tryz.underlying32 rfl (by kernel_rfl) rfl hrow) rfl ⟨rfl,Go.WW.Below.putRow (ag hB hb1) (by omega)⟩
theorem ajA(e q:Sl)(D:Db)(t:Sl)(pn:az)(w:World)(hq:bz w t pn)(f la su:Int)(hv:jZ f la su=true)(hE:jy w e.a D.entries)(hi:idxOf (fun z=>aX z.name pn) D.entries=-1):Calls Tryz.prog 38 #[.agg (au e q D),.agg (ai t pn),.int .i64 f,.int .i64 la,.int .i64 su] w fun x w'=>x=.returned (.tuple #[.agg (au e q D),.int .i64 9])∧Below w.heap.size w w':=by
 obtain⟨W,dD,hB,hx2,hx3,hz,hW⟩:=rH e q D (ai t pn) 40 w
 replace dD:=Lib.hid dD
 go_enter Tryz.func38,Tryz.ntmps38
 go_wp2_with fail
 rw[dD.out];clear dD
 have hp1:=jQ W (.cells #[Value.string ⟨#[97]⟩] 9) (.cells (ae (xn (w.heap.size+1+1+1)) (ql f la su)) 47)
 rw[hW]at hp1
 have fV:Below W.heap.size W ((W.alloc (.cells #[Value.string ⟨#[97]⟩] 9)).alloc (.cells (ae (xn (w.heap.size+1+1+1)) (ql f la su)) 47)):=aj (aj (Below.refl _ W) _) _
 refine(yN _ _ _ (MH hp1 f la su) true ((MI f la su).trans hv)).mono ?_
 rintro x w0 ⟨rfl,hb0⟩
 have hb1:=ag fV hb0
 clear hb0 fV hp1
 have hs1':=hb1.size
 obtain⟨hc,hf,hr,hlt⟩:=aC (aJ hb1 hx2)
 obtain⟨hc3,hf3,hr3,hlt3⟩:=aC (aJ hb1 hx3)
 dsimp only
 go_wp2_with fail
 refine(CY _ _ _ _ _ _ (hE.later (ag hB hb1)) (hq.later (ag hB hb1))).mono ?_
 rintro x w2 ⟨rfl,hb2⟩
 rw[hi]
 have dW:=ag hb1 hb2
 clear hc hf hr hlt hc3 hf3 hr3 hlt3
 obtain⟨hc,hf,hr,hlt⟩:=aC (aJ dW hx2)
 obtain⟨hc3,hf3,hr3,hlt3⟩:=aC (aJ dW hx3)
 dsimp only
 have hlt4:w.heap.size+1+1<w2.heap.size:=by have:=dW.size;omega
 have hz1:=(gI dW (w.heap.size+1+1) 0 4 (by omega)).trans hz
 have hne:w.heap.size+1+1≠w.heap.size:=by omega
 go_wp2_with fail
 have hrow:=iT (w:=w2) (jH e q D) hz1
 exact bodyPost_ret (kQ (by rfl) Tryz.underlying32 rfl (by kernel_rfl) rfl hrow) rfl ⟨rfl,Go.WW.Below.putRow (ag hB dW) (by omega)⟩
theorem ajB(e q:Sl)(D:Db)(t:Sl)(pn:az)(w:World)(hq:bz w t pn)(f la su:Int)(hv:jZ f la su=true)(X:List EE)(hX:gu w e.a X)(hm:∀x∈X,bJ w x.1 x.2)(hD:D.entries=X.map (·.2))(i0:Nat)(hi0:i0<X.length)(hat:idxOf (fun z=>aX z.name pn) D.entries=(i0:Int))(hs0:0≤D.ay)(hs1:D.ay<1000000)(X':List EE)(hX0:X'=X.set i0 (X[i0].1,touched X[i0].2 f la su)):Calls Tryz.prog 38 #[.agg (au e q D),.agg (ai t pn),.int .i64 f,.int .i64 la,.int .i64 su] w (He q D X' w):=by
 have HX0:=Lib.hid hX0
 clear hX0
 have hlen:D.entries.length=X.length:=by rw[hD];simp
 have hE:jy w e.a D.entries:=by rw[hD];exact hX.dK hm
 clear hD
 obtain⟨W,dD,hB,hx2,hx3,hz,hW⟩:=rH e q D (ai t pn) 40 w
 replace dD:=Lib.hid dD
 go_enter Tryz.func38,Tryz.ntmps38
 go_wp2_with fail
 rw[dD.out];clear dD
 have hp1:=jQ W (.cells #[Value.string ⟨#[97]⟩] 9) (.cells (ae (xn (w.heap.size+1+1+1)) (ql f la su)) 47)
 rw[hW]at hp1
 have fV:Below W.heap.size W ((W.alloc (.cells #[Value.string ⟨#[97]⟩] 9)).alloc (.cells (ae (xn (w.heap.size+1+1+1)) (ql f la su)) 47)):=aj (aj (Below.refl _ W) _) _
 refine(yN _ _ _ (MH hp1 f la su) true ((MI f la su).trans hv)).mono ?_
 rintro x w0 ⟨rfl,hb0⟩
 have hb1:=ag fV hb0
 clear hb0 fV hp1
 have hs1':=hb1.size
 obtain⟨hc,hf,hr,hlt⟩:=aC (aJ hb1 hx2)
 obtain⟨hc3,hf3,hr3,hlt3⟩:=aC (aJ hb1 hx3)
 dsimp only
 go_wp2_with fail
 refine(CY _ _ _ _ _ _ (hE.later (ag hB hb1)) (hq.later (ag hB hb1))).mono ?_
 rintro x w2 ⟨rfl,hb2⟩
 rw[hat]
 have dW:=ag hb1 hb2
 clear hc hf hr hlt hc3 hf3 hr3 hlt3
 obtain⟨hc,hf,hr,hlt⟩:=aC (aJ dW hx2)
 obtain⟨hc3,hf3,hr3,hlt3⟩:=aC (aJ dW hx3)
 have Ha:(D.ay+1).tmod 4611686018427387904=D.ay+1:=Int.tmod_eq_of_lt (by omega) (by omega)
 have hne1:w.heap.size+1≠w.heap.size:=by omega
 have hne2:w.heap.size+1+1≠w.heap.size:=by omega
 have Hf:¬(i0:Int)<0:=by omega
 have ap4:(i0:Int)<(X.length:Int):=by omega
 have GK:X.length≤4294967000:=hX.1
 have hsrc:=(hX.later (ag (ag hB dW) ((Below.refl _ w2).alloc (Nat.le_refl _) (.cells #[] 47)))).src
 have hown:=Own.empty w2 47 17
 have hs2':=dW.size
 dsimp only
 go_wp2_with (at_builtin;refine gp rfl (.tmp 30) (.tmp 32) _ rfl uV (n:=0) (s:=⟨some ⟨w2.heap.size,0,none⟩,0⟩) rfl rfl hown rfl (by rw[List.length_map]) hsrc (by simp;omega) (by simp) ?_;intro s3 w3 hown3 hg3 gq;have hb3:Below W.heap.size W w3:=(dW.alloc dW.size (.cells #[] 47)).grown hg3 (by simp;omega) (fun k e'=>by cases e';exact hs2');obtain⟨hc5,hf5,rO,ajC⟩:=aC (aJ hb3 hx2))
 obtain⟨g,cur,um,hgb,hh3,ajD,hsz3,MJ⟩:=hown3.cur (by simp;omega)
 obtain⟨s3a,uo⟩:=s3
 dsimp only at um
 subst um
 dsimp only
 simp only[List.nil_append,List.length_map]at hsz3 MJ ajD
 have hgw:g≠w.heap.size:=by omega
 have hgz:g≠w.heap.size+1+1:=by omega
 obtain⟨V,hV⟩:∃V,V=w3.setCell ⟨w.heap.size,2,none⟩ (.slice (some ⟨g,0,none⟩) X.length uo):=⟨_,rfl⟩
 have WG:V.heap[g]?=some (.cells cur 47):=by rw[hV];exact(Below.heap_setCell _ _ _ _ hgw).trans hh3
 have DU:V.heap[w.heap.size]?=some (.cells ((au e q D).setIfInBounds 2 (.slice (some ⟨g,0,none⟩) X.length uo)) 32):=by rw[hV];exact dF (o:=2) _ (aJ hb3 hx2)
 have hVz:aQ V (w.heap.size+1+1) 0 4=true:=by rw[hV];exact(lQ hne2).trans ((gI hb3 (w.heap.size+1+1) 0 4 (by omega)).trans hz)
 have iV:Below w.heap.size w V:=by rw[hV];exact(ag hB hb3).setCell (by simp) _
 have GR:w.heap.size+1+1<V.heap.size:=by rw[hV];simp only[World.setCell,Array.size_modify];have:=hb3.size;omega
 have hwl:w.heap.size<V.heap.size:=Nat.lt_of_succ_lt (Nat.lt_of_succ_lt GR)
 have WH:w.heap.size≤g:=by omega
 have hw2:w.heap.size≤w.heap.size+1+1:=by omega
 rw[show(au e q D).setIfInBounds 2 (.slice (some ⟨g,0,none⟩) X.length uo)=au ⟨some ⟨g,0,none⟩,uo⟩ q {D with entries:=X.map (·.2)} by rw[←TB e q D ⟨some ⟨g,0,none⟩,uo⟩ (X.map (·.2)),List.length_map]]at DU
 have hrow:=MJ i0 hi0
 rw[List.getElem_map]at hrow
 have hcell:∀j,j<17→cur[i0*17+j]?=(bY X[i0])[j]?:=fun j hj=>by
  have:=ajq hrow j hj
  exact this
 have h11:=(hcell 11 (by omega)).trans (Qu _ _)
 have h12:=(hcell 12 (by omega)).trans (Qv _ _)
 have h13:=(hcell 13 (by omega)).trans (Qw _ _)
 rw[←hV]
 clear hV hc5 hf5 rO ajC hc hf hr hlt hc3 hf3 hr3 hlt3
 obtain⟨hc,hf,hr,hlt⟩:=aC DU
 obtain⟨hcg,hfg,hrg,WI⟩:=aC WG
 have nb:¬one g w.heap.size:=bf (Ne.symm hgw)
 refine mG (one g) (But.refl _ V) (by kernel_rfl) (by kernel_rfl) ?_
 iterate 14 (refine aP (by kernel_rfl) (by kernel_rfl) (fun K hK=>?_);go_big_quiet_op;refine hK _ ?_;clear hK K)
 refine aT (by rfl) (by rfl) (fun K hK=>?_)
 go_wp2_with fail
 refine hK _ _ (cu ((yV V g (i0*17+11) (.int .i64 f)).drew)) ?_
 clear hK K
 iterate 2 (refine aP (by kernel_rfl) (by kernel_rfl) (fun K hK=>?_);go_big_quiet_op;refine hK _ ?_;clear hK K)
 refine aT (by rfl) (by rfl) (fun K hK=>?_)
 go_wp2_with fail
 refine hK _ _ (cu ((yV V g (i0*17+11) (.int .i64 f)).trans (yV _ g (i0*17+12) (.int .i64 la))).drew) ?_
 clear hK K
 have ajF:But (one g) V ((V.setCell ⟨g,i0*17+11,none⟩ (.int .i64 f)).setCell ⟨g,i0*17+12,none⟩ (.int .i64 la)).drew:=((yV V g (i0*17+11) (.int .i64 f)).trans (yV _ g (i0*17+12) (.int .i64 la))).drew
 have WJ:=ajr WG (i0*17+11) (i0*17+12) (.int .i64 f) (.int .i64 la)
 have ap6:((cur.setIfInBounds (i0*17+11) (.int .i64 f)).setIfInBounds (i0*17+12) (.int .i64 la))[i0*17+13]?=some (.int .i64 X[i0].2.gy):=by
  rw[Array.getElem?_setIfInBounds,if_neg (by omega),Array.getElem?_setIfInBounds,if_neg (by omega)]
  exact h13
 generalize ((V.setCell ⟨g,i0*17+11,none⟩ (.int .i64 f)).setCell ⟨g,i0*17+12,none⟩ (.int .i64 la)).drew=V2 at *
 clear hcg hfg hrg WI h11 h12 h13
 obtain⟨hcg,hfg,hrg,WI⟩:=aC WJ
 iterate 2 (refine aP (by kernel_rfl) (by kernel_rfl) (fun K hK=>?_);go_big_quiet_op;refine hK _ ?_;clear hK K)
 refine aT (by rfl) (by rfl) (fun K hK=>?_)
 go_wp2_with fail
 have fU:=ajF.trans (yV V2 g (i0*17+13) (.int .i64 su))
 have hUg:=dF (o:=i0*17+13) (.int .i64 su) WJ
 refine hK _ _ (cu fU) ?_
 clear hK K
 refine bQ ?_
 generalize V2.setCell ⟨g,i0*17+13,none⟩ (.int .i64 su)=U at *
 have hX':=HX0.out
 have MK:X'.length=X.length:=by rw[hX',List.length_set]
 have jV:=(fU.block _ hwl nb).trans DU
 have hUz:aQ U (w.heap.size+1+1) 0 4=true:=(sO (fU.block _ GR (bf (Ne.symm hgz))) 0 4).trans hVz
 have Uy:=fU.size
 have hBU:Below w.heap.size w U:=((But.of_below (S:=fun k=>w.heap.size≤k) iV).trans (fU.mono fun k (hk:k=g)=>hk▸WH)).below (Nat.le_refl _) fun k hk=>hk
 obtain⟨hcU,hfU,-,ap9⟩:=aC jV
 have hset:=dF (o:=1) (.int .i64 (D.ay+1)) jV
 have Dz:row? (U.setCell ⟨w.heap.size,1,none⟩ (.int .i64 (D.ay+1))) w.heap.size 0 4=some (au ⟨some ⟨g,0,none⟩,uo⟩ q {D with entries:=X'.map (·.2),ay:=D.ay+1}):=(bP hset).trans (by rw[TA,show au ⟨some ⟨g,0,none⟩,uo⟩ q {D with entries:=X.map (·.2),ay:=D.ay+1}=au ⟨some ⟨g,0,none⟩,uo⟩ q {D with entries:=X'.map (·.2),ay:=D.ay+1} from ajs (by simp[MK]) rfl rfl rfl];exact aid _ _ _)
 have hcp:aQ (U.setCell ⟨w.heap.size,1,none⟩ (.int .i64 (D.ay+1))) (w.heap.size+1+1) 0 4=true:=(lQ hne2).trans hUz
 have hrx:=aju (cur:=cur) (X:=X) i0 hi0 f la su (fun i hi=>by have:=MJ i hi;rwa[List.getElem_map]at this)
 have HRX:Hid (∀i (hi:i<X'.length),eG (((cur.setIfInBounds (i0*17+11) (.int .i64 f)).setIfInBounds (i0*17+12) (.int .i64 la)).setIfInBounds (i0*17+13) (.int .i64 su)) (i*17) 17=some (bY X'[i])):=Lib.hid (by subst hX';exact hrx)
 have ML:=Lib.hid MK
 clear hrx hX' MK
 have WL:=Lib.hid hUg
 have HBU:=Lib.hid fU
 go_wp2_with fail
 have hrow2:=iT (jH ⟨some ⟨g,0,none⟩,uo⟩ q {D with entries:=X'.map (·.2),ay:=D.ay+1}) hcp
 refine bodyPost_ret (kQ (by rfl) Tryz.underlying32 rfl (by kernel_rfl) rfl hrow2) rfl ?_
 refine⟨⟨some ⟨g,0,none⟩,uo⟩,rfl,Go.WW.Below.putRow (hBU.setCell (Nat.le_refl _) _) hw2,fun y hy=>?_⟩
 have hgl:g<U.heap.size:=(Array.getElem?_eq_some_iff.1 WL.out).1
 have hyg:y.heap[g]?=U.heap[g]?:=by
  rw[hy g ⟨WH,by rw[kG];simp only[World.setCell,Array.size_modify];exact hgl⟩,iD hgz,Below.heap_setCell _ _ _ _ hgw]
 refine⟨by rw[ML.out];exact hX.1,fun i hi=>⟨g,0,bY X'[i],rfl,?_,_,List.getElem?_eq_getElem hi,rfl⟩⟩
 rw[Nat.zero_add,bP (hyg.trans WL.out)]
 exact HRX.out i hi
end Go.Proofs.YtfieenjdcpjmgaaGreatDoor
namespace Go.WW
open Go.RowKit
section
variable {P:Program} {ops:Array Oper} {S:World→Prop} {st:Oper→Bool} {Q:Act→World→Prop}
theorem ajJ{m:Array (List Nat)}(hok:qG st ops m){Q':Exit→Act→World→Prop}{z:Oper}{N:Nat}(hN:ops.size=N+1)(hz:ops[N]?=some z)(hzg:z.guard=none)(MM:∀i,i<N→∃e∈z.after,Region.binds .any e=true∧e.on=i)
  (hQ:∀a w,Q a w→z.wp P a w (fun a' w'=>Q' .normal a' w') never) :
  ∀(n:Nat) (L:List Nat) (listed:Array Bool) (a:Act) (w:World),L.length=n→L.Pairwise (· < ·)→listed.size=ops.size→listed.getD N true=false→(∀j,j∈L↔j<N∧listed.getD j true=false)→
   (∀k o,ops[k]?=some o→listed.getD k false=true→∀e∈o.after,Region.binds .any e=true→listed.getD e.on false=true)→
   S w→aH P ops st S Q (L.filterMap (ops[·]?)) a w→wpAny P .any ops Q' (n+1) listed a w:=by
 intro n
 induction n with
 |zero=>
  intro L listed a w hn _ hsz yX hL hdown _ h
  have:L=[]:=List.eq_nil_of_length_eq_zero hn
  subst this
  have hls:∀i,i<N→listed.getD i false=true:=fun i hi=>by
   have h2:listed.getD i true≠false:=fun hf=>by have:=(hL i).2 ⟨hi,hf⟩;cases this
   have hes:i<listed.size:=by omega
   simp[hes]at h2 ⊢;exact h2
  refine⟨fun hr=>?_,fun i hi=>?_⟩
  ·have:N∈Region.ready .any ops listed:=mem_ready.2 ⟨yX,z,hz,fun e he hb=>hls _ (by have:=hok.back N z hz e he hb;exact this)⟩
   rw[hr]at this;cases this
  ·obtain⟨h0,o,ho,_⟩:=mem_ready.1 hi
   have his:i<ops.size:=(Array.getElem?_eq_some_iff.1 ho).1
   have hiN:i=N:=Classical.byContradiction fun hne=>by
    have:=(hL i).2 ⟨by omega,h0⟩;cases this
   subst hiN
   rw[hz]at ho;cases ho
   have hend:∀a' w',Q' .normal a' w'→wpAny P .any ops Q' 0 (listed.setIfInBounds i true) a' w':=fun a' w' hq=>by
    refine⟨?_,hq⟩
    cases hr:Region.ready .any ops (listed.setIfInBounds i true)with
    |nil=>rfl
    |cons k r=>
     have hk:k∈Region.ready .any ops (listed.setIfInBounds i true):=by rw[hr];simp
     obtain⟨h1,o',ho',_⟩:=mem_ready.1 hk
     have hks:k<ops.size:=(Array.getElem?_eq_some_iff.1 ho').1
     exfalso
     by_cases hki:k=i
     ·subst hki
      have:k<listed.size:=by omega
      simp[this]at h1
     ·rw[getD_set_ne true (Ne.symm hki)]at h1
      have:=(hL k).2 ⟨by omega,h1⟩;cases this
   unfold wpOp
   simp only[hz,Region.wanted,hzg,if_true]
   exact .inl (qF (Oper.wp_mono (fun a' w' hh=>hend a' w' hh) (hQ _ _ h)))
 |succ n ih=>
  intro L listed a w hn hsort hsz yX hL hdown hS h
  refine⟨fun hr=>?_,fun i hi=>?_⟩
  ·exfalso
   cases L with
   |nil=>simp at hn
   |cons j L=>
    obtain⟨hj,hjl⟩:=(hL j).1 (by simp)
    have hj':j<ops.size:=by omega
    have hoj:ops[j]?=some ops[j]:=by simp[hj']
    have:j∈Region.ready .any ops listed:=by
     refine mem_ready.2 ⟨hjl,_,hoj,fun e he hb=>?_⟩
     have hlt:=hok.back j _ hoj e he hb
     have hnot:e.on∉j::L:=by
      intro hmem
      rcases List.mem_cons.1 hmem with h1|h1
      ·omega
      ·have:=(List.pairwise_cons.1 hsort).1 _ h1;omega
     have h2:listed.getD e.on true≠false:=fun hf=>hnot ((hL e.on).2 ⟨by omega,hf⟩)
     have hes:e.on<listed.size:=by omega
     simp[hes]at h2 ⊢;exact h2
    rw[hr]at this;cases this
  ·obtain⟨h0,o,ho,hall⟩:=mem_ready.1 hi
   have his:i<ops.size:=(Array.getElem?_eq_some_iff.1 ho).1
   have hiN:i≠N:=fun e=>by
    subst e
    rw[hz]at ho;cases ho
    cases L with
    |nil=>simp at hn
    |cons j L=>
     obtain⟨hj,hjl⟩:=(hL j).1 (by simp)
     obtain⟨e,he,hb,rfl⟩:=MM j hj
     have:=hall e he hb
     rw[sS this]at hjl;cases hjl
   have hiL:i∈L:=(hL i).2 ⟨by omega,h0⟩
   obtain⟨L1,L2,rfl⟩:=List.append_of_mem hiL
   have dJ:=List.pairwise_append.1 hsort
   have hlt1:∀x∈L1,x<i:=fun x hx=>dJ.2.2 x hx i (by simp)
   have hgt2:∀x∈L2,i<x:=fun x hx=>(List.pairwise_cons.1 dJ.2.1).1 x hx
   rw[List.filterMap_append,List.filterMap_cons_some ho]at h
   have bV:=lL (P:=P) (ops:=ops) (S:=S) (st:=st) (Q:=Q) (Region.noSelect_spec hok.je i o · · ho) (L1.filterMap (ops[·]?)) (fun x hx=>by
    obtain⟨k,hk,hox⟩:=List.mem_filterMap.1 hx
    have hkl:=((hL k).1 (by simp[hk])).2
    have hnl:¬listed.getD k false=true:=fun hf=>by rw[sS hf]at hkl;cases hkl
    refine⟨(Region.noSelect_spec hok.je k x · · hox),?_⟩
    rcases hok.pair i o ho k (hlt1 k hk) x hox with⟨e,he,hb,rfl⟩|⟨hap,hor⟩
    ·exact absurd (hall e he hb) hnl
    ·refine⟨hap,?_⟩
     rcases hor with h1|h1|h1
     ·exact .inl h1
     ·exact .inr h1
     ·exact absurd (zU hok hdown i o ho hall k h1) hnl) a w hS h
   have hrest:∀a' w',S w'→aH P ops st S Q (L1.filterMap (ops[·]?)++L2.filterMap (ops[·]?)) a' w'→wpAny P .any ops Q' (n+1) (listed.setIfInBounds i true) a' w':=by
    intro a' w' hS' hh
    rw[←List.filterMap_append]at hh
    refine ih (L1++L2) (listed.setIfInBounds i true) a' w' ?_ ?_ (by simpa using hsz) (by rw[getD_set_ne true hiN];exact yX) ?_ ?_ hS' hh
    ·simp at hn ⊢;omega
    ·exact List.pairwise_append.2 ⟨dJ.1,(List.pairwise_cons.1 dJ.2.1).2,fun x hx y hy=>dJ.2.2 x hx y (by simp[hy])⟩
    ·intro j
     by_cases hji:j=i
     ·subst hji
      constructor
      ·intro hm
       exfalso
       rcases List.mem_append.1 hm with h1|h1
       ·have:=hlt1 _ h1;omega
       ·have:=hgt2 _ h1;omega
      ·rintro⟨_,hf⟩
       have:j<listed.size:=by omega
       simp[this]at hf
     ·rw[getD_set_ne true (Ne.symm hji),←hL j]
      simp[hji]
    ·intro k ok hk hkl e he hb
     by_cases hki:k=i
     ·subst hki
      rw[ho]at hk;cases hk
      exact getD_set_true (hall e he hb)
     ·rw[getD_set_ne false (Ne.symm hki)]at hkl
      exact getD_set_true (hdown k ok hk hkl e he hb)
   unfold wpOp
   simp only[ho]
   rw[bH]at bV
   split
   ·rename_i hw
    rw[if_pos hw]at bV
    refine .inl ?_
    by_cases hs:st o=true
    ·rw[if_pos hs]at bV
     obtain⟨v,hv,hh⟩:=bV
     unfold Oper.wp
     rw[hv w hS]
     exact hrest _ _ hS hh
    ·rw[if_neg hs]at bV
     exact qF (Oper.wp_mono (fun a' w' hh=>hrest a' w' hh.1 hh.2) bV)
   ·rename_i hw
    rw[if_neg hw]at bV
    exact hrest _ _ hS bV
end
def lastB(ops:List Oper):Bool:=
 match ops.getLast? with
 |some z=>z.guard.isNone&&(List.range (ops.length-1)).all fun i=>z.after.toList.any fun e=>Region.binds .any e&&e.on == i
 |none=>false
def vG(P:Program)(ops:List Oper)(Q:Act→World→Prop)(a:Act)(w:World):Prop:=
 match ops.getLast? with
 |some z=>z.wp P a w Q never
 |none=>False
theorem ajK{P:Program}{id:Nat}{Q':Exit→Act→World→Prop}{a:Act}{w:World}{l:List Oper}(S:World→Prop)(st:Oper→Bool)(hm:P.follows .mixedOrders=true)(hB:lM st l.toArray=true)(hZ:lastB l=true)
  (hS:S w.drew) (h:aH P l.toArray st S (vG P l fun a' w'=>Q' .normal a' w') l.dropLast a w.drew):(Code.region id l.toArray true).wp P Q' a w:=by
 refine wp_region_any hm ?_
 unfold lastB at hZ
 cases hg:l.getLast? with
 |none=>rw[hg]at hZ;cases hZ
 |some z=>
  rw[hg]at hZ
  simp only[Bool.and_eq_true,List.all_eq_true,List.mem_range]at hZ
  obtain⟨hz1,hz2⟩:=hZ
  have hne:l≠[]:=fun e=>by rw[e]at hg;cases hg
  have hlen:l.length=l.length-1+1:=by have:=List.length_pos_iff.2 hne;omega
  have hzi:l.toArray[l.length-1]?=some z:=by
   rw[List.getLast?_eq_getElem?]at hg;simpa using hg
  have hfm:(List.range (l.length-1)).filterMap (l.toArray[·]?)=l.dropLast:=by
   rw[List.dropLast_eq_take]
   have:∀n,(List.range n).filterMap (fun i=>l.toArray[i]?)=l.take n:=by
    intro n
    induction n with
    |zero=>simp
    |succ n ih=>
     rw[List.range_succ,List.filterMap_append,ih]
     by_cases hn:n<l.length
     ·rw[List.take_succ_eq_append_getElem hn];simp[hn]
     ·simp[hn,List.take_of_length_le (show l.length≤n by omega),List.take_of_length_le (show l.length≤n+1 by omega)]
   exact this _
  have:=ajJ (P:=P) (S:=S) (Q:=vG P l fun a' w'=>Q' .normal a' w') (xU hB) (Q':=Q') (z:=z) (N:=l.length-1) (by simpa using hlen) hzi (by simpa using hz1) (fun i hi=>by
    have:=hz2 i hi
    simp only[List.any_eq_true,Bool.and_eq_true,beq_iff_eq]at this
    obtain⟨e,he,hb⟩:=this
    exact⟨e,by simpa using he,hb⟩) (fun a' w' hq=>by unfold vG at hq;rw[hg]at hq;exact hq) (l.length-1) (List.range (l.length-1)) (Array.replicate l.toArray.size false) a w.drew
   (by simp) List.pairwise_lt_range (by simp) (by
     have:l.length-1<l.length:=by omega
     simp[this]) (by intro j;simp;intro h1;simp[show j<l.length by omega]) (by intro k o hk hkl;exfalso;rw[Array.getD_eq_getD_getElem?,Array.getElem?_replicate]at hkl;split at hkl<;>simp at hkl) hS (by rw[hfm];exact h)
  rw[←hlen]at this
  simpa using this
end Go.WW
