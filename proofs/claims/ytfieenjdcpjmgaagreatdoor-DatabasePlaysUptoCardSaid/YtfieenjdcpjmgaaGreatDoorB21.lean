/- A part of the proof. -/
import Derived.Test.YtfieenjdcpjmgaaGreatDoorB19
import Derived.Test.YtfieenjdcpjmgaaGreatDoorB20
import Derived.Test.YtfieenjdcpjmgaaGreatDoorB18
import Derived.Test.YtfieenjdcpjmgaaGreatDoorB09
set_option maxRecDepth 100000
set_option maxHeartbeats 2000000
namespace Go.WW
open Go.RowKit
theorem WM{L:List ai}(hn:(L.map (·.name)).Nodup){i j:Nat}(hi:i<L.length)(hj:j<L.length)(e:L[i].name=L[j].name):i=j:=
 Ht hn (i:=i) (j:=j) (by simpa using hi) (by simpa using hj) (by simpa using e)
theorem Be{L:List ai}{k:ByteArray}{i:Nat}(hi:i<L.length)(e:L[i].name=k):L.any (fun x=>decide (x.name=k))=true:=
 List.any_eq_true.2 ⟨_,List.getElem_mem hi,by simpa using e⟩
theorem ajQ{D D1 D2:Db}{q:ai}{n1 n2:Int}(hn:(D.au.map (·.name)).Nodup)(h1:mZ D q n1 D1)(h2:mZ D q n2 D2):n1=n2∧D1=D2:=by
 cases h1 with
 |bad hv=>
  cases h2 with
  |bad=>exact⟨rfl,rfl⟩
  |new hv'=>rw[hv]at hv';cases hv'
  |old hv'=>rw[hv]at hv';cases hv'
 |new hv ha=>
  cases h2 with
  |bad hv'=>rw[hv]at hv';cases hv'
  |new=>exact⟨rfl,rfl⟩
  |old hv' i hi hnm=>rw[Be hi hnm]at ha;cases ha
 |old hv i hi hnm=>
  cases h2 with
  |bad hv'=>rw[hv]at hv';cases hv'
  |new hv' ha=>rw[Be hi hnm]at ha;cases ha
  |old hv' j hj hnm'=>
   obtain rfl:=WM hn hi hj (hnm.trans hnm'.symm)
   exact⟨rfl,rfl⟩
theorem Ie{L:List ai}{d:Entry}(h:mY L d)(hpe:¬d.aO=⟨#[]⟩)(hn:L.any (fun x=>decide (x.name=d.aO))=false):False:=by
 rcases h with h|h
 ·exact hpe h
 ·rw[hn]at h;cases h
theorem ajR{D D1 D2:Db}{X X1 X2:List EE}{r:aN}{d:Entry}{n1 n2:Int}(hg:gY (X.map (·.2)))(h1:kS D X r d n1 D1 X1)(h2:kS D X r d n2 D2 X2):n1=n2∧D1=D2∧X1=X2:=by
 cases h1 with
 |bad hv=>
  cases h2 with
  |bad=>exact⟨rfl,rfl,rfl⟩
  |uk hv' hre=>rcases hv with h|h;rw[h]at hv';cases hv';exact absurd hre h
  |busy hv' hre=>rcases hv with h|h;rw[h]at hv';cases hv';exact absurd hre h
  |put hv' hre=>rcases hv with h|h;rw[h]at hv';cases hv';exact absurd hre h
 |uk hv hre hpe hn=>
  cases h2 with
  |bad hv'=>rcases hv' with h|h;rw[h]at hv;cases hv;exact absurd hre h
  |uk=>exact⟨rfl,rfl,rfl⟩
  |busy _ _ hp=>exact(Ie hp hpe hn).elim
  |put _ _ hp=>exact(Ie hp hpe hn).elim
 |busy hv hre hp hx=>
  cases h2 with
  |bad hv'=>rcases hv' with h|h;rw[h]at hv;cases hv;exact absurd hre h
  |uk _ _ hpe hn=>exact(Ie hp hpe hn).elim
  |busy=>exact⟨rfl,rfl,rfl⟩
  |put _ _ _ hx'=>obtain⟨x,Na,hb,hne⟩:=hx;exact absurd (hx' x Na hb) hne
 |put hv hre hp hx A hs hA=>
  cases h2 with
  |bad hv'=>rcases hv' with h|h;rw[h]at hv;cases hv;exact absurd hre h
  |uk _ _ hpe hn=>exact(Ie hp hpe hn).elim
  |busy _ _ _ hx'=>obtain⟨x,Na,hb,hne⟩:=hx';exact absurd (hx x Na hb) hne
  |put _ _ _ _ B hs' hB=>
   obtain rfl:=ajw hg (A:=A) (B:=B) (fun x hx=>hs.mem hx) (fun x hx=>hs'.mem hx) (hA.trans hB.symm)
   exact⟨rfl,rfl,rfl⟩
theorem Nb{x:Entry}{q:az}(hx:bW x=true):aY x.name q=true↔textOf x.name=dQ q:=
 (DV (rQ hx _ (List.mem_cons_self ..))).symm
theorem ajS{X:List EE}{q:az}(hg:gY (X.map (·.2))){i j:Nat}(hi:i<X.length)(hj:j<X.length)(h1:aY X[i].2.name q=true)(h2:aY X[j].2.name q=true):i=j:=by
 have a:=(Nb (hg.ok _ (List.mem_map.2 ⟨_,List.getElem_mem hi,rfl⟩))).1 h1
 have b:=(Nb (hg.ok _ (List.mem_map.2 ⟨_,List.getElem_mem hj,rfl⟩))).1 h2
 exact A7 hg (i:=i) (j:=j) (by simpa using hi) (by simpa using hj) (by simpa using a.trans b.symm)
theorem ajT{D D1 D2:Db}{X X1 X2:List EE}{q:az}{n1 n2:Int}(hg:gY (X.map (·.2)))(h1:rU D X q n1 D1 X1)(h2:rU D X q n2 D2 X2):n1=n2∧D1=D2∧X1=X2:=by
 cases h1 with
 |none hn=>
  cases h2 with
  |none=>exact⟨rfl,rfl,rfl⟩
  |yes i hi hs=>rw[hn _ (List.getElem_mem hi)]at hs;cases hs
 |yes i hi hs=>
  cases h2 with
  |none hn=>rw[hn _ (List.getElem_mem hi)]at hs;cases hs
  |yes j hj hs'=>
   obtain rfl:=ajS hg hi hj hs hs'
   exact⟨rfl,rfl,rfl⟩
theorem ajU{D D1 D2:Db}{X X1 X2:List EE}{q:az}{f a b n1 n2:Int}(h1:uo D X q f a b n1 D1 X1)(h2:uo D X q f a b n2 D2 X2):n1=n2∧D1=D2∧X1=X2:=by
 cases h1 with
 |bad hv=>
  cases h2 with
  |bad=>exact⟨rfl,rfl,rfl⟩
  |none hv'=>rw[hv]at hv';cases hv'
  |yes hv'=>rw[hv]at hv';cases hv'
 |none hv hn=>
  cases h2 with
  |bad hv'=>rw[hv]at hv';cases hv'
  |none=>exact⟨rfl,rfl,rfl⟩
  |yes _ i hi hs=>rw[hn _ (List.getElem_mem hi)]at hs;cases hs
 |yes hv i hi hs=>
  cases h2 with
  |bad hv'=>rw[hv]at hv';cases hv'
  |none _ hn=>rw[hn _ (List.getElem_mem hi)]at hs;cases hs
  |yes=>exact⟨rfl,rfl,rfl⟩
theorem ajV{D D1 D2:Db}{k:ByteArray}{n1 n2:Int}(hn:(D.au.map (·.name)).Nodup)(h1:qw D k n1 D1)(h2:qw D k n2 D2):n1=n2∧D1=D2:=by
 cases h1 with
 |none ha=>
  cases h2 with
  |none=>exact⟨rfl,rfl⟩
  |busy i hi hnm=>rw[Be hi hnm]at ha;cases ha
  |yes i hi hnm=>rw[Be hi hnm]at ha;cases ha
 |busy i hi hnm hb=>
  cases h2 with
  |none ha=>rw[Be hi hnm]at ha;cases ha
  |busy=>exact⟨rfl,rfl⟩
  |yes j hj hnm' hb'=>obtain⟨x,hx,e⟩:=hb;exact absurd e (hb' x hx)
 |yes i hi hnm hb=>
  cases h2 with
  |none ha=>rw[Be hi hnm]at ha;cases ha
  |busy j hj hnm' hb'=>obtain⟨x,hx,e⟩:=hb';exact absurd e (hb x hx)
  |yes j hj hnm'=>
   obtain rfl:=WM hn hi hj (hnm.trans hnm'.symm)
   exact⟨rfl,rfl⟩
theorem bK.touched{w:World}{r:aN}{d:Entry}(h:bK w r d)(k:ByteArray)(f a b:Int):bK w r (jw k f a b d):=by
 unfold jw
 split
 ·exact⟨h.name,h.aliases,h.keys,h.targets,h.bD,h.history,h.aO,h.attrs⟩
 ·exact h
theorem mg.grow{S S':Nat→Prop}{w:World}{x:EE}(h:mg S w x)(hS:∀k,S' k→k<w.heap.size→S k):mg S' w x:=
 fun y hy=>h y ⟨hy.os,hy.tape,hy.output,hy.size,fun k hk hn=>hy.block k hk fun hs=>hn (hS k hs hk)⟩
theorem jL.grow{S S':Nat→Prop}{w:World}{Φ:World→Prop}(h:jL S w Φ)(hS:∀k,S' k→k<w.heap.size→S k):jL S' w Φ:=
 fun y hy=>h y ⟨hy.os,hy.tape,hy.output,hy.size,fun k hk hn=>hy.block k hk fun hs=>hn (hS k hs hk)⟩
end Go.WW
namespace Go.Proofs.YtfieenjdcpjmgaaGreatDoor
open Go.RowKit Go.WW
def xC(S:Nat→Prop)(b n e p:Nat)(re:ByteArray)(s:Int)(D D':Db)(X':List EE)(no:Int)(w:World)(z:Ending)(w':World):Prop:=
 z=.returned (.int .i64 no)∧But (aZ b n e p) w w'∧∃kZ E' P',jM S b n e p re (s+(D'.ay-D.ay)) kZ E' P' w'∧fA D' X' kZ E' P'
section
variable (S:Nat→Prop) (b n e p:Nat) (re:ByteArray) (s:Int) (NL:List (ByteArray×ByteArray)) (E:List EE) (P:List ai) (D D':Db) (X X':List EE) (no:Int) (w:World)
theorem zf(h:jM S b n e p re s NL E P w)(hr:fA D X NL E P):∀(z:Ending) (w':World),(z=.returned (.int .i64 no)∧Below w.heap.size w w')→xC S b n e p re s D D X no w z w':=by
 rintro z w' ⟨rfl,hb⟩
 exact⟨rfl,But.of_below hb,NL,E,P,by rw[Int.sub_self,Int.add_zero];exact h.later hb,hr⟩
theorem WN(r:aN)(d:Entry)(r2:aN)(h:jM S b n e p re s NL E P w)(hre:¬re=⟨#[]⟩)(hDr:D.aG=re)(hr:fA D X NL E P)(hst:kS D X r d no D' X')(he:bK w r2 d)(hlt:∀k,S k→k<w.heap.size)(hn:X.length<4096)(hs0:0≤s)(hs1:s<1000000) :
  Calls Tryz.prog 23 #[.pointer (some ⟨b,0,none⟩),.agg (ae r2 d)] w (xC S b n e p re s D D' X' no w):=by
 have same:=zf S b n e p re s NL E P D X
 have hEl:E.length<4096:=by have:=hr.perm.length_eq;simp at this;omega
 have main:bW d=true→d.name.aG=D.aG→mY D.au d→∃N1 E1,tY (dU NL) E (textOf d.name) N1 E1∧Calls Tryz.prog 23 #[.pointer (some ⟨b,0,none⟩),.agg (ae r2 d)] w (Vt b n e p re s NL N1 E1 P d w):=by
  intro hv hrl hp
  have hR:∃N1 E1,tY (dU NL) E (textOf d.name) N1 E1:=by
   by_cases hx:∃x∈E,textOf x.2.name=textOf d.name
   ·obtain⟨x,hx,e'⟩:=hx
    exact⟨_,_,.inl ⟨x,hx,e',rfl,rfl⟩⟩
   ·exact⟨_,_,.inr ⟨fun x hx' e'=>hx ⟨x,hx',e'⟩,rfl,rfl⟩⟩
  obtain⟨N1,E1,hR⟩:=hR
  refine⟨N1,E1,hR,aiv b n e p re s NL N1 E E1 P r2 d w h.db hre he (fun x hx=>⟨fun y hy=>h.keep x hx y (hy.mono h.sub),fun q hq=>rQ (hr.good.ok x.2 (List.mem_map.2 ⟨x,hx,rfl⟩)) q hq⟩) hR (fun q hq=>rQ hv q hq) hv (hrl.trans hDr) ?_ ?_ hEl hs0 hs1⟩
  ·rcases hp with hp|hp
   ·exact .inl hp
   ·exact .inr (by rw[hr.dL.any];exact hp)
  ·intro k o o' ho ho'
   obtain⟨x,hx,rfl,q,hq,hk⟩:=(hr.names k o).1 ho
   obtain⟨y,hy,rfl,q',hq',hk'⟩:=(hr.names k o').1 ho'
   exact hr.good.apart x hx y hy q hq q' hq' (hk.symm.trans hk')
 cases hst with
 |bad hv=>
  rcases hv with hv|hv
  ·exact(Vm b n e p re s _ E P r2 d w h.db hre he hv).mono (same 2 w h hr)
  ·cases hv2:bW d with
   |false=>exact(Vm b n e p re s _ E P r2 d w h.db hre he hv2).mono (same 2 w h hr)
   |true=>exact(ait b n e p re s _ E P r2 d w h.db hre he hv2 (by rw[←hDr];exact hv)).mono (same 2 w h hr)
 |uk hv hrl hpe ha=>exact(aiu b n e p re s _ E P r2 d w h.db hre he hv (hrl.trans hDr) hpe (by rw[hr.dL.any];exact ha)).mono (same 9 w h hr)
 |busy hv hrl hp hx=>
  obtain⟨N1,E1,hR,hc⟩:=main hv hrl hp
  refine hc.mono ?_
  rintro z w' (⟨rfl,-,hb⟩|⟨-,hf,-⟩)
  ·exact same 11 w h hr _ _ ⟨rfl,hb⟩
  ·obtain⟨x,kY,hxb,qo⟩:=hx
   exact absurd ((We hr.names hr.good hv).2 ⟨x,hr.perm.mem_iff.2 kY,hxb,qo⟩) (MM.1 hf)
 |put hv hrl hp hx X1 hs1' h1=>
  obtain⟨N1,E1,hR,hc⟩:=main hv hrl hp
  refine hc.mono ?_
  rintro z w' (⟨rfl,hbz,-⟩|⟨rfl,-,hb,r',hk',oD⟩)
  ·have hf:=(hr.put (r:=r) (r':=r) hv hp hx X1 hs1' h1 hR).1
   exact absurd hbz (MM.1 hf)
  ·obtain⟨-,kZ,e1,hpl⟩:=hr.put (r:=r) (r':=r') hv hp hx X1 hs1' h1 hR
   rw[show d.name::d.aliases=iQ d from rfl,e1]at oD
   refine⟨rfl,hb,kZ,_,P,⟨by show bU _ _ _ _ _ _ (s+(D.ay+1-D.ay)) _ _ _;rw[show s+(D.ay+1-D.ay)=s+1 by omega];exact oD,fun x hx'=>?_,h.sub⟩,hpl⟩
   rcases List.mem_append.1 hx' with hx'|hx'
   ·have:x∈E:=aiH hR x hx'
    exact(h.keep x this).on (hb.mono h.sub)
   ·simp only[List.mem_singleton]at hx';subst hx';exact fun y hy=>hk' y (hy.mono hlt)
theorem WO(q:ai)(h:jM S b n e p re s NL E P w)(hre:¬re=⟨#[]⟩)(hr:fA D X NL E P)(hst:mZ D q no D')(hs:q.name.size≤lim)(hn:P.length<64)(hs0:0≤s)(hs1:s<1000000) :
  Calls Tryz.prog 29 #[.pointer (some ⟨b,0,none⟩),.agg (aC q)] w (xC S b n e p re s D D' X no w):=by
 have hD:=Wv hst
 have hkeep:=ajg hst hr.dL.nodup
 have out:∀(D':Db),D'.entries=D.entries→D'.aG=D.aG→D'.ay=D.ay+1→(∀x∈D.au,∃y∈D'.au,y.name=x.name)→mD (qi P q) D'.au→∀(z:Ending) (w':World),(z=.returned (.int .i64 0)∧But (aZ b n e p) w w'∧bU w' b n e p re (s+1) (dU NL) E (qi P q))→
   xC S b n e p re s D D' X 0 w z w':=by
  rintro D' h1 h2 h3 h5 h4 z w' ⟨rfl,hb,hd⟩
  refine⟨rfl,hb,NL,E,_,⟨by rw[h3,show s+(D.ay+1-D.ay)=s+1 by omega];exact hd,fun x hx=>(h.keep x hx).on (hb.mono h.sub),h.sub⟩,⟨h1.trans hr.eq,hr.names,hr.good,hr.perm,hr.sorted,h4,fun x hx=>?_⟩⟩
  exact(hr.has x hx).mono h5
 cases hst with
 |bad hv=>exact(ahx b n e p re s _ E P q w h.db hre hs hv).mono (zf S b n e p re s NL E P D X 2 w h hr)
 |new hv ha=>
  exact(ahy b n e p re s _ E P q w h.db hre hs hv (by rw[hr.dL.any];exact ha) hn hs0 hs1).mono (out {D with au:=fF q (-1) 0 false D.au,ay:=D.ay+1} rfl rfl rfl hkeep (hr.dL.new hv ha))
 |old hv i hi hnm=>
  exact(ahz b n e p re s _ E P q w h.db hre hs hv D.au[i] (hr.dL.perm.mem_iff.2 (List.getElem_mem hi)) hnm hs0 hs1).mono (out {D with au:=fF q (i:Int) 0 false D.au,ay:=D.ay+1} rfl rfl rfl hkeep (hr.dL.old hv hi hnm))
theorem WQ(t:Sl)(q:az)(h:jM S b n e p re s NL E P w)(hre:¬re=⟨#[]⟩)(hr:fA D X NL E P)(hst:rU D X q no D' X')(hq:bn w t q)(hs0:0≤s)(hs1:s<1000000) :
  Calls Tryz.prog 28 #[.pointer (some ⟨b,0,none⟩),.agg (ah t q)] w (xC S b n e p re s D D' X' no w):=by
 cases hst with
 |none hn=>exact(ajC b n e p re s _ E P t q w h.db hre hq (hr.WC hn)).mono (zf S b n e p re s NL E P D X 9 w h hr)
 |yes i hi hn=>
  obtain⟨x0,hx0,hk,hpl⟩:=hr.WE hi hn
  refine(ajD b n e p re s _ E P t q w h.db hre hq (fun x hx=>⟨fun y hy=>h.keep x hx y (hy.mono h.sub),fun q hq=>rQ (hr.good.ok x.2 (List.mem_map.2 ⟨x,hx,rfl⟩)) q hq⟩) hs0 hs1 x0 hx0 hk).mono ?_
  rintro z w' ⟨rfl,hb,hd⟩
  rw[ML]at hd
  exact⟨rfl,hb,_,_,P,⟨by show bU _ _ _ _ _ _ (s+(D.ay+1-D.ay)) _ _ _;rw[show s+(D.ay+1-D.ay)=s+1 by omega];exact hd,fun x hx=>(h.keep x (List.mem_filter.1 hx).1).on (hb.mono h.sub),h.sub⟩,hpl⟩
theorem ajW(t:Sl)(q:az)(f la su:Int)(h:jM S b n e p re s NL E P w)(hre:¬re=⟨#[]⟩)(hr:fA D X NL E P)(hst:uo D X q f la su no D' X')(hq:bn w t q)(hs0:0≤s)(hs1:s<1000000) :
  Calls Tryz.prog 37 #[.pointer (some ⟨b,0,none⟩),.agg (ah t q),.int .i64 f,.int .i64 la,.int .i64 su] w (xC S b n e p re s D D' X' no w):=by
 cases hst with
 |bad hv=>exact(ajE b n e p re s _ E P t q f la su w h.db hre hv).mono (zf S b n e p re s NL E P D X 2 w h hr)
 |none hv hn=>exact(ajF b n e p re s _ E P t q f la su w h.db hre hq hv (hr.WC hn)).mono (zf S b n e p re s NL E P D X 9 w h hr)
 |yes hv i hi hn=>
  obtain⟨x0,hx0,hk,-⟩:=hr.WE hi hn
  refine(ajG b n e p re s _ E P t q f la su w h.db hre hq hv hr.good hs0 hs1 x0 hx0 hk).mono ?_
  rintro z w' ⟨rfl,hb,hd⟩
  refine⟨rfl,hb,NL,_,P,⟨by show bU _ _ _ _ _ _ (s+(D.ay+1-D.ay)) _ _ _;rw[show s+(D.ay+1-D.ay)=s+1 by omega];exact hd,fun x hx=>?_,h.sub⟩,hr.touch (dQ q) hv⟩
  obtain⟨z,hz,rfl⟩:=List.mem_map.1 hx
  exact fun y hy=>(h.keep z hz y ((hb.mono h.sub).trans hy)).touched _ _ _ _
theorem WR(k:ByteArray)(h:jM S b n e p re s NL E P w)(hre:¬re=⟨#[]⟩)(hr:fA D X NL E P)(hst:qw D k no D')(hs0:0≤s)(hs1:s<1000000) :
  Calls Tryz.prog 30 #[.pointer (some ⟨b,0,none⟩),.string k] w (xC S b n e p re s D D' X no w):=by
 cases hst with
 |none ha=>exact(ajI b n e p re s _ E P k w h.db hre (by rw[hr.dL.any];exact ha)).mono (zf S b n e p re s NL E P D X 9 w h hr)
 |busy i hi hnm hb=>
  subst hnm
  refine(ajJ b n e p re s _ E P D.au[i] w h.db hre (hr.dL.perm.mem_iff.2 (List.getElem_mem hi)) ?_).mono (zf S b n e p re s NL E P D X 11 w h hr)
  obtain⟨x,hx,ex⟩:=hb
  rw[hr.eq]at hx
  obtain⟨y,hy,ey⟩:=List.mem_map.1 (hr.perm.mem_iff.2 hx)
  exact⟨y,hy,by rw[ey];exact ex⟩
 |yes i hi hnm hb=>
  subst hnm
  refine(ajK b n e p re s _ E P D.au[i] w h.db hre (hr.dL.perm.mem_iff.2 (List.getElem_mem hi)) ?_ hs0 hs1).mono ?_
  ·intro x hx ex
   refine hb x.2 ?_ ex
   rw[hr.eq]
   exact hr.perm.mem_iff.1 (List.mem_map.2 ⟨x,hx,rfl⟩)
  ·rintro z w' ⟨rfl,hb',hd⟩
   exact⟨rfl,hb',NL,E,_,⟨by show bU _ _ _ _ _ _ (s+(D.ay+1-D.ay)) _ _ _;rw[show s+(D.ay+1-D.ay)=s+1 by omega];exact hd,fun x hx=>(h.keep x hx).on (hb'.mono h.sub),h.sub⟩,hr.ajq hi hb⟩
end
end Go.Proofs.YtfieenjdcpjmgaaGreatDoor
namespace Go.WW
open Go.RowKit
theorem Nc{cs r:Array Value}{o n j:Nat}{v:Value}(h:fO cs o n=some r)(hj:j<n):fO (cs.setIfInBounds (o+j) v) o n=some (r.setIfInBounds j v):=by
 unfold fO at h ⊢
 rw[Array.size_setIfInBounds]
 split at h
 ·rename_i hle
  rw[if_pos hle]
  cases h
  congr 1
  apply Array.ext_getElem?
  intro i
  rw[Array.getElem?_setIfInBounds]
  by_cases hi:i<n
  ·rw[Array.getElem?_extract,Array.getElem?_extract,Array.getElem?_setIfInBounds]
   have e1:i<min (o+n) cs.size-o:=by omega
   have e2:i<min (o+n) (cs.setIfInBounds (o+j) v).size-o:=by rw[Array.size_setIfInBounds];omega
   simp only[e1,e2,if_true]
   by_cases e:j=i
   ·subst e
    rw[if_pos rfl,if_pos rfl,if_pos (by omega),if_pos (by simp;omega)]
   ·rw[if_neg (by omega),if_neg e]
  ·rw[Array.getElem?_eq_none (by simp;omega),if_neg (by omega),Array.getElem?_eq_none (by simp;omega)]
 ·cases h
theorem Nh{cs:Array Value}{o n j:Nat}{v:Value}(hj:j<o∨o+n≤j):fO (cs.setIfInBounds j v) o n=fO cs o n:=by
 unfold fO
 rw[Array.size_setIfInBounds]
 split
 ·congr 1
  apply Array.ext_getElem?
  intro i
  rw[Array.getElem?_extract,Array.getElem?_extract,Array.getElem?_setIfInBounds,Array.size_setIfInBounds]
  split
  ·rw[if_neg (by omega)]
  ·rfl
 ·rfl
theorem gK.src{w:World}{a:Option Addr}{X:List EE}(h:gK w a X):cZ w 17 a (X.map cu):=
 ⟨fun r hr=>by obtain⟨x,_,rfl⟩:=List.mem_map.1 hr;exact Ae _ _,fun r hr=>by obtain⟨x,_,rfl⟩:=List.mem_map.1 hr;exact QN _ _,fun i hi=>by
  obtain⟨b,o,cs,ha,hr,x,hx,rfl⟩:=h.2 i (by simpa using hi)
  exact⟨b,o,ha,by rw[hr,List.getElem_map,(List.getElem?_eq_some_iff.1 hx).2]⟩⟩
theorem Own.cur{w:World}{base k:Nat}{e:TypeId}{s:Sl}{rows:List (Array Value)}(h:Own w base e k s rows)(hn:0<rows.length) :
  ∃g cur,s.a=some ⟨g,0,none⟩∧base≤g∧w.heap[g]?=some (.cells cur e)∧rows.length≤s.cap∧rows.length*k≤cur.size∧∀i (hi:i<rows.length),fO cur (i*k) k=some rows[i]:=by
 rcases h.own.2 with⟨_,hn'⟩|⟨g,cap,cur,hv,hb,hh,hle,_,hsz,_⟩
 ·omega
 ·have ha:s.a=some ⟨g,0,none⟩:=by injection hv
  have hc:s.cap=cap:=by injection hv
  refine⟨g,cur,ha,hb,hh,by omega,by rw[hsz];exact Nat.mul_le_mul_right _ hle,fun i hi=>?_⟩
  obtain⟨g',ha',-,hr⟩:=h.row i hi
  rw[ha]at ha';cases ha'
  rw[bQ hh,Nat.zero_add]at hr
  exact hr
theorem ajX{cs r:Array Value}{o n:Nat}(h:fO cs o n=some r)(j:Nat)(hj:j<n):cs[o+j]?=r[j]?:=by
 unfold fO at h
 split at h
 ·cases h
  rw[Array.getElem?_extract]
  rw[if_pos (by omega)]
 ·cases h
theorem zg(w:World)(b o:Nat)(v:Value):But (one b) w (w.setCell ⟨b,o,Option.none⟩ v):=⟨rfl,rfl,rfl,by simp[World.setCell],fun k _ hn=>Below.heap_setCell _ _ _ _ (show k≠b from hn)⟩
theorem ajY{V:World}{g:Nat}{cur:Array Value}{t:TypeId}(h:V.heap[g]?=some (.cells cur t))(a b:Nat)(x y:Value):((V.setCell ⟨g,a,Option.none⟩ x).setCell ⟨g,b,Option.none⟩ y).drew.heap[g]?=some (.cells ((cur.setIfInBounds a x).setIfInBounds b y) t):=dI (o:=b) _ (dI (o:=a) _ h)
def xE(g:Nat):aN:={aW with parts:=⟨some ⟨g,0,none⟩,1⟩}
def qx(f a b:Int):Entry:={aQ with name:=⟨[⟨#[97]⟩],⟨#[82]⟩⟩,fails:=f,fD:=a,gQ:=b}
theorem Nj{w:World}{g:Nat}{t:TypeId}(h:w.heap[g]?=some (.cells #[Value.string ⟨#[97]⟩] t))(f a b:Int):bK w (xE g) (qx f a b):=by
 have hz:∀(k:Nat) (R:Nat→Array Value→Prop),aX w k none 0 R:=fun k R=>⟨Nat.zero_le _,fun i hi=>absurd hi (Nat.not_lt_zero _)⟩
 refine⟨⟨⟨show 1≤lim by decide,fun i hi=>?_⟩,show 1≤lim by decide⟩,hz _ _,hz _ _,hz _ _,hz _ _,⟨Nat.zero_le _,fun i hi=>absurd hi (Nat.not_lt_zero _)⟩,show 0≤lim by decide,show(0:Int)≤0∧(0:Int)≤4294967295 by decide⟩
 obtain rfl:i=0:=by
  have:i<1:=hi
  omega
 exact⟨g,0,.string ⟨#[97]⟩,rfl,by rw[(aB h).1];rfl,_,rfl,rfl,by decide⟩
theorem Nk(f a b:Int):bW (qx f a b)=kC f a b:=by
 have h0:bW (qx 0 0 0)=true:=by decide +kernel
 simp only[bW,jG,kL,qx,aQ,Bool.and_eq_true]at h0
 simp only[bW,jG,kL,qx,aQ,kC,h0,Bool.true_and]
 rfl
theorem ajZ{e q:Sl}{D D':Db}(h1:D.entries.length=D'.entries.length)(h2:D.aG=D'.aG)(h3:D.ay=D'.ay)(h4:D.au=D'.au):ak e q D=ak e q D':=by
 unfold ak
 rw[h1,h2,h3,h4]
theorem aj0(x:EE)(f a b:Int):(((cu x).setIfInBounds 11 (.int .i64 f)).setIfInBounds 12 (.int .i64 a)).setIfInBounds 13 (.int .i64 b)=cu (x.1,touched x.2 f a b):=by
 rcases x with⟨r,d⟩
 kernel_rfl
theorem aj1{cur:Array Value}{X:List EE}(i0:Nat)(hi0:i0<X.length)(f a b:Int)(h:∀i (hi:i<X.length),fO cur (i*17) 17=some (cu X[i])) :
  ∀i (hi:i<(X.set i0 (X[i0].1,touched X[i0].2 f a b)).length),fO (((cur.setIfInBounds (i0*17+11) (.int .i64 f)).setIfInBounds (i0*17+12) (.int .i64 a)).setIfInBounds (i0*17+13) (.int .i64 b)) (i*17) 17=some (cu ((X.set i0 (X[i0].1,touched X[i0].2 f a b))[i])):=by
 intro i hi
 have hi':i<X.length:=by simpa using hi
 rw[List.getElem_set]
 by_cases e:i0=i
 ·subst e
  rw[if_pos rfl,←aj0]
  exact Nc (Nc (Nc (h i0 hi0) (by omega)) (by omega)) (by omega)
 ·rw[if_neg e,Nh (by omega),Nh (by omega),Nh (by omega)]
  exact h i hi'
end Go.WW
namespace Go.Proofs.YtfieenjdcpjmgaaGreatDoor
open Go.RowKit Go.WW
theorem aj2(e q:Sl)(D:Db)(t:Sl)(pn:az)(w:World)(hq:bn w t pn)(hE:jd w e.a D.entries)(hi:idxOf (fun z=>aY z.name pn) D.entries=-1):Calls Tryz.prog 36 #[.agg (ak e q D),.agg (ah t pn)] w fun x w'=>x=.returned (.tuple #[.agg (ak e q D),.int .i64 9])∧Below w.heap.size w w':=by
 obtain⟨W,dE,hB,hx2,hx3,hz,hW⟩:=rO e q D (ah t pn) 40 w
 replace dE:=Lib.hid dE
 go_enter Tryz.func36,Tryz.ntmps36
 go_wp2_with fail
 rw[dE.out];clear dE
 refine(C9 _ _ _ _ _ _ (hE.later hB) (hq.later hB)).mono ?_
 rintro x w1 ⟨rfl,hb1⟩
 rw[hi]
 have hs1:=hb1.size
 obtain⟨hc,hf,hr,hlt⟩:=aB (aJ hb1 hx2)
 obtain⟨hc3,hf3,hr3,hlt3⟩:=aB (aJ hb1 hx3)
 dsimp only
 have hlt4:w.heap.size+1+1<w1.heap.size:=by have:=hb1.size;omega
 have hz1:=(gG hb1 (w.heap.size+1+1) 0 4 (by omega)).trans hz
 have hne:w.heap.size+1+1≠w.heap.size:=by omega
 go_wp2_with fail
 have hrow:=iO (w:=w1) (jD e q D) hz1
 exact bodyPost_ret (jE (by rfl) Tryz.underlying32 rfl (by kernel_rfl) rfl hrow) rfl ⟨rfl,Go.WW.Below.putRow (ag hB hb1) (by omega)⟩
theorem aj3(e q:Sl)(D:Db)(t:Sl)(pn:az)(w:World)(hq:bn w t pn)(X:List EE)(hX:gK w e.a X)(hm:∀x∈X,bK w x.1 x.2)(hD:D.entries=X.map (·.2))(i0:Nat)(hi0:i0<X.length)(hat:idxOf (fun z=>aY z.name pn) D.entries=(i0:Int))(hs0:0≤D.ay)(hs1:D.ay<1000000):Calls Tryz.prog 36 #[.agg (ak e q D),.agg (ah t pn)] w (Ho q D (X.eraseIdx i0) w):=by
 have hlen:D.entries.length=X.length:=by rw[hD];simp
 have hE:jd w e.a D.entries:=by rw[hD];exact hX.dG hm
 clear hD
 obtain⟨W,dE,hB,hx2,hx3,hz,hW⟩:=rO e q D (ah t pn) 40 w
 replace dE:=Lib.hid dE
 go_enter Tryz.func36,Tryz.ntmps36
 go_wp2_with fail
 rw[dE.out];clear dE
 refine(C9 _ _ _ _ _ _ (hE.later hB) (hq.later hB)).mono ?_
 rintro x w1 ⟨rfl,hb1⟩
 rw[hat]
 have hs1':=hb1.size
 have hB1:=ag hB hb1
 obtain⟨hc,hf,hr,hlt⟩:=aB (aJ hb1 hx2)
 obtain⟨hc3,hf3,hr3,hlt3⟩:=aB (aJ hb1 hx3)
 have Hm:(D.ay+1).tmod 4611686018427387904=D.ay+1:=Int.tmod_eq_of_lt (by omega) (by omega)
 have hne1:w.heap.size+1≠w.heap.size:=by omega
 have hne2:w.heap.size+1+1≠w.heap.size:=by omega
 have Hr:¬(i0:Int)<0:=by omega
 have hcon:=TW e.a e.cap X i0 w1 (hX.later hB1) hi0
 dsimp only
 go_wp2_with fail
 refine hcon.mono ?_
 rintro x w5 ⟨s5,rfl,hb5,hd5⟩
 have jr:=ag hb1 hb5
 clear hc hf hr hlt hc3 hf3 hr3 hlt3
 generalize hX5:X.eraseIdx i0=X5 at *
 have hy2:=aJ jr hx2
 have hs5:=hb5.size
 obtain⟨hc,hf,hr,hlt⟩:=aB hy2
 have hset:=dI (o:=1) (.int .i64 (D.ay+1)) (dI (o:=2) (.slice s5.a X5.length s5.cap) hy2)
 have DK:row? ((w5.setCell ⟨w.heap.size,2,none⟩ (.slice s5.a X5.length s5.cap)).setCell ⟨w.heap.size,1,none⟩ (.int .i64 (D.ay+1))) w.heap.size 0 4=some (ak s5 q {D with entries:=X5.map (·.2),ay:=D.ay+1}):=(bQ hset).trans (by rw[show X5.length=(X5.map (·.2)).length from(List.length_map _).symm];kernel_rfl)
 have hcp:aS ((w5.setCell ⟨w.heap.size,2,none⟩ (.slice s5.a X5.length s5.cap)).setCell ⟨w.heap.size,1,none⟩ (.int .i64 (D.ay+1))) (w.heap.size+1+1) 0 4=true:=(lZ hne2).trans ((lZ hne2).trans ((gG jr (w.heap.size+1+1) 0 4 (by omega)).trans hz))
 clear hr
 dsimp only
 go_wp2_with fail
 have hrow:=iO (jD s5 q {D with entries:=X5.map (·.2),ay:=D.ay+1}) hcp
 refine bodyPost_ret (jE (by rfl) Tryz.underlying32 rfl (by kernel_rfl) rfl hrow) rfl ⟨s5,rfl,Go.WW.Below.putRow (((ag hB jr).setCell (by simp) _).setCell (by simp) _) (by omega),fun y hy=>hd5 _ (fun g hg=>?_)⟩
 have hg1:=hg.1
 have hg2:=hg.2
 rw[hy g ⟨by omega,by rw[kN];simp only[World.setCell,Array.size_modify];omega⟩,iI (by omega),Below.heap_setCell _ _ _ _ (show g≠w.heap.size by omega),Below.heap_setCell _ _ _ _ (show g≠w.heap.size by omega)]
theorem aj6(ρ:Operand→Value)(dst:Option Tmp)(a0 a1 a2 a3:Operand)(ty:TypeId)(pos:String)(after:Array Edge)(guard:Option (Nat×Bool)) :
  execOp ρ {dst,op:=.build 47 #[(0,a0),(10,a1),(11,a2),(12,a3)],type:=ty,pos,after,guard}=iq 47 #[(0,ρ a0),(10,ρ a1),(11,ρ a2),(12,ρ a3)]:=by simp[execOp,iq]
theorem aj7(g:Nat)(f a b:Int)(w:World):(iq 47 #[(0,.agg #[.slice (some ⟨g,0,none⟩) 1 1,.string ⟨#[82]⟩]),(10,.int .i64 f),(11,.int .i64 a),(12,.int .i64 b)]).run Tryz.prog w=.ok (.value (.agg (ae (xE g) (qx f a b)))) w:=by kernel_rfl
attribute [go_sem] aj7
attribute [go_sem ↓] aj6
theorem aj8(e q:Sl)(D:Db)(t:Sl)(pn:az)(w:World)(_hq:bn w t pn)(f la su:Int)(hv:kC f la su=false):Calls Tryz.prog 38 #[.agg (ak e q D),.agg (ah t pn),.int .i64 f,.int .i64 la,.int .i64 su] w fun x w'=>x=.returned (.tuple #[.agg (ak e q D),.int .i64 2])∧Below w.heap.size w w':=by
 obtain⟨W,dE,hB,hx2,hx3,hz,hW⟩:=rO e q D (ah t pn) 40 w
 replace dE:=Lib.hid dE
 go_enter Tryz.func38,Tryz.ntmps38
 go_wp2_with fail
 rw[dE.out];clear dE
 have hp1:=jq W (.cells #[Value.string ⟨#[97]⟩] 9) (.cells (ae (xE (w.heap.size+1+1+1)) (qx f la su)) 47)
 rw[hW]at hp1
 have ed:Below W.heap.size W ((W.alloc (.cells #[Value.string ⟨#[97]⟩] 9)).alloc (.cells (ae (xE (w.heap.size+1+1+1)) (qx f la su)) 47)):=aj (aj (Below.refl _ W) _) _
 refine(yR _ _ _ (Nj hp1 f la su) false ((Nk f la su).trans hv)).mono ?_
 rintro x w0 ⟨rfl,hb0⟩
 have hb1:=ag ed hb0
 clear hb0 ed hp1
 have hs1':=hb1.size
 obtain⟨hc,hf,hr,hlt⟩:=aB (aJ hb1 hx2)
 obtain⟨hc3,hf3,hr3,hlt3⟩:=aB (aJ hb1 hx3)
 dsimp only
 have hlt4:w.heap.size+1+1<w0.heap.size:=by have:=hb1.size;omega
 have hz1:=(gG hb1 (w.heap.size+1+1) 0 4 (by omega)).trans hz
 have hne:w.heap.size+1+1≠w.heap.size:=by omega
 go_wp2_with fail
 have hrow:=iO (w:=w0) (jD e q D) hz1
 exact bodyPost_ret (jE (by rfl) Tryz.underlying32 rfl (by kernel_rfl) rfl hrow) rfl ⟨rfl,Go.WW.Below.putRow (ag hB hb1) (by omega)⟩
theorem aj9(e q:Sl)(D:Db)(t:Sl)(pn:az)(w:World)(hq:bn w t pn)(f la su:Int)(hv:kC f la su=true)(hE:jd w e.a D.entries)(hi:idxOf (fun z=>aY z.name pn) D.entries=-1):Calls Tryz.prog 38 #[.agg (ak e q D),.agg (ah t pn),.int .i64 f,.int .i64 la,.int .i64 su] w fun x w'=>x=.returned (.tuple #[.agg (ak e q D),.int .i64 9])∧Below w.heap.size w w':=by
 obtain⟨W,dE,hB,hx2,hx3,hz,hW⟩:=rO e q D (ah t pn) 40 w
 replace dE:=Lib.hid dE
 go_enter Tryz.func38,Tryz.ntmps38
 go_wp2_with fail
 rw[dE.out];clear dE
 have hp1:=jq W (.cells #[Value.string ⟨#[97]⟩] 9) (.cells (ae (xE (w.heap.size+1+1+1)) (qx f la su)) 47)
 rw[hW]at hp1
 have ed:Below W.heap.size W ((W.alloc (.cells #[Value.string ⟨#[97]⟩] 9)).alloc (.cells (ae (xE (w.heap.size+1+1+1)) (qx f la su)) 47)):=aj (aj (Below.refl _ W) _) _
 refine(yR _ _ _ (Nj hp1 f la su) true ((Nk f la su).trans hv)).mono ?_
 rintro x w0 ⟨rfl,hb0⟩
 have hb1:=ag ed hb0
 clear hb0 ed hp1
 have hs1':=hb1.size
 obtain⟨hc,hf,hr,hlt⟩:=aB (aJ hb1 hx2)
 obtain⟨hc3,hf3,hr3,hlt3⟩:=aB (aJ hb1 hx3)
 dsimp only
 go_wp2_with fail
 refine(C9 _ _ _ _ _ _ (hE.later (ag hB hb1)) (hq.later (ag hB hb1))).mono ?_
 rintro x w2 ⟨rfl,hb2⟩
 rw[hi]
 have gu:=ag hb1 hb2
 clear hc hf hr hlt hc3 hf3 hr3 hlt3
 obtain⟨hc,hf,hr,hlt⟩:=aB (aJ gu hx2)
 obtain⟨hc3,hf3,hr3,hlt3⟩:=aB (aJ gu hx3)
 dsimp only
 have hlt4:w.heap.size+1+1<w2.heap.size:=by have:=gu.size;omega
 have hz1:=(gG gu (w.heap.size+1+1) 0 4 (by omega)).trans hz
 have hne:w.heap.size+1+1≠w.heap.size:=by omega
 go_wp2_with fail
 have hrow:=iO (w:=w2) (jD e q D) hz1
 exact bodyPost_ret (jE (by rfl) Tryz.underlying32 rfl (by kernel_rfl) rfl hrow) rfl ⟨rfl,Go.WW.Below.putRow (ag hB gu) (by omega)⟩
theorem aka(e q:Sl)(D:Db)(t:Sl)(pn:az)(w:World)(hq:bn w t pn)(f la su:Int)(hv:kC f la su=true)(X:List EE)(hX:gK w e.a X)(hm:∀x∈X,bK w x.1 x.2)(hD:D.entries=X.map (·.2))(i0:Nat)(hi0:i0<X.length)(hat:idxOf (fun z=>aY z.name pn) D.entries=(i0:Int))(hs0:0≤D.ay)(hs1:D.ay<1000000)(X':List EE)(hX0:X'=X.set i0 (X[i0].1,touched X[i0].2 f la su)):Calls Tryz.prog 38 #[.agg (ak e q D),.agg (ah t pn),.int .i64 f,.int .i64 la,.int .i64 su] w (Ho q D X' w):=by
 have HX0:=Lib.hid hX0
 clear hX0
 have hlen:D.entries.length=X.length:=by rw[hD];simp
 have hE:jd w e.a D.entries:=by rw[hD];exact hX.dG hm
 clear hD
 obtain⟨W,dE,hB,hx2,hx3,hz,hW⟩:=rO e q D (ah t pn) 40 w
 replace dE:=Lib.hid dE
 go_enter Tryz.func38,Tryz.ntmps38
 go_wp2_with fail
 rw[dE.out];clear dE
 have hp1:=jq W (.cells #[Value.string ⟨#[97]⟩] 9) (.cells (ae (xE (w.heap.size+1+1+1)) (qx f la su)) 47)
 rw[hW]at hp1
 have ed:Below W.heap.size W ((W.alloc (.cells #[Value.string ⟨#[97]⟩] 9)).alloc (.cells (ae (xE (w.heap.size+1+1+1)) (qx f la su)) 47)):=aj (aj (Below.refl _ W) _) _
 refine(yR _ _ _ (Nj hp1 f la su) true ((Nk f la su).trans hv)).mono ?_
 rintro x w0 ⟨rfl,hb0⟩
 have hb1:=ag ed hb0
 clear hb0 ed hp1
 have hs1':=hb1.size
 obtain⟨hc,hf,hr,hlt⟩:=aB (aJ hb1 hx2)
 obtain⟨hc3,hf3,hr3,hlt3⟩:=aB (aJ hb1 hx3)
 dsimp only
 go_wp2_with fail
 refine(C9 _ _ _ _ _ _ (hE.later (ag hB hb1)) (hq.later (ag hB hb1))).mono ?_
 rintro x w2 ⟨rfl,hb2⟩
 rw[hat]
 have gu:=ag hb1 hb2
 clear hc hf hr hlt hc3 hf3 hr3 hlt3
 obtain⟨hc,hf,hr,hlt⟩:=aB (aJ gu hx2)
 obtain⟨hc3,hf3,hr3,hlt3⟩:=aB (aJ gu hx3)
 have Hm:(D.ay+1).tmod 4611686018427387904=D.ay+1:=Int.tmod_eq_of_lt (by omega) (by omega)
 have hne1:w.heap.size+1≠w.heap.size:=by omega
 have hne2:w.heap.size+1+1≠w.heap.size:=by omega
 have Hr:¬(i0:Int)<0:=by omega
 have aqA:(i0:Int)<(X.length:Int):=by omega
 have GV:X.length≤4294967000:=hX.1
 have hsrc:=(hX.later (ag (ag hB gu) ((Below.refl _ w2).alloc (Nat.le_refl _) (.cells #[] 47)))).src
 have hown:=Own.empty w2 47 17
 have hs2':=gu.size
 dsimp only
 go_wp2_with (at_builtin;refine gI rfl (.tmp 30) (.tmp 32) _ rfl uX (n:=0) (s:=⟨some ⟨w2.heap.size,0,none⟩,0⟩) rfl rfl hown rfl (by rw[List.length_map]) hsrc (by simp;omega) (by simp) ?_;intro s3 w3 hown3 hg3 gJ;have hb3:Below W.heap.size W w3:=(gu.alloc gu.size (.cells #[] 47)).grown hg3 (by simp;omega) (fun k e'=>by cases e';exact hs2');obtain⟨hc5,hf5,rV,akb⟩:=aB (aJ hb3 hx2))
 obtain⟨g,cur,uq,hgb,hh3,akc,hsz3,Nl⟩:=hown3.cur (by simp;omega)
 obtain⟨s3a,uu⟩:=s3
 dsimp only at uq
 subst uq
 dsimp only
 simp only[List.nil_append,List.length_map]at hsz3 Nl akc
 have hgw:g≠w.heap.size:=by omega
 have hgz:g≠w.heap.size+1+1:=by omega
 obtain⟨V,hV⟩:∃V,V=w3.setCell ⟨w.heap.size,2,none⟩ (.slice (some ⟨g,0,none⟩) X.length uu):=⟨_,rfl⟩
 have WS:V.heap[g]?=some (.cells cur 47):=by rw[hV];exact(Below.heap_setCell _ _ _ _ hgw).trans hh3
 have DY:V.heap[w.heap.size]?=some (.cells ((ak e q D).setIfInBounds 2 (.slice (some ⟨g,0,none⟩) X.length uu)) 32):=by rw[hV];exact dI (o:=2) _ (aJ hb3 hx2)
 have hVz:aS V (w.heap.size+1+1) 0 4=true:=by rw[hV];exact(lZ hne2).trans ((gG hb3 (w.heap.size+1+1) 0 4 (by omega)).trans hz)
 have jf:Below w.heap.size w V:=by rw[hV];exact(ag hB hb3).setCell (by simp) _
 have GZ:w.heap.size+1+1<V.heap.size:=by rw[hV];simp only[World.setCell,Array.size_modify];have:=hb3.size;omega
 have hwl:w.heap.size<V.heap.size:=Nat.lt_of_succ_lt (Nat.lt_of_succ_lt GZ)
 have WT:w.heap.size≤g:=by omega
 have hw2:w.heap.size≤w.heap.size+1+1:=by omega
 rw[show(ak e q D).setIfInBounds 2 (.slice (some ⟨g,0,none⟩) X.length uu)=ak ⟨some ⟨g,0,none⟩,uu⟩ q {D with entries:=X.map (·.2)} by rw[←TT e q D ⟨some ⟨g,0,none⟩,uu⟩ (X.map (·.2)),List.length_map]]at DY
 have hrow:=Nl i0 hi0
 rw[List.getElem_map]at hrow
 have hcell:∀j,j<17→cur[i0*17+j]?=(cu X[i0])[j]?:=fun j hj=>by
  have:=ajX hrow j hj
  exact this
 have h11:=(hcell 11 (by omega)).trans (QR _ _)
 have h12:=(hcell 12 (by omega)).trans (QS _ _)
 have h13:=(hcell 13 (by omega)).trans (QU _ _)
 rw[←hV]
 clear hV hc5 hf5 rV akb hc hf hr hlt hc3 hf3 hr3 hlt3
 obtain⟨hc,hf,hr,hlt⟩:=aB DY
 obtain⟨hcg,hfg,hrg,WU⟩:=aB WS
 have nb:¬one g w.heap.size:=bu (Ne.symm hgw)
 refine oZ (one g) (But.refl _ V) (by kernel_rfl) (by kernel_rfl) ?_
 iterate 14 (refine aP (by kernel_rfl) (by kernel_rfl) (fun K hK=>?_);go_big_quiet_op;refine hK _ ?_;clear hK K)
 refine aU (by rfl) (by rfl) (fun K hK=>?_)
 go_wp2_with fail
 refine hK _ _ (dw ((zg V g (i0*17+11) (.int .i64 f)).drew)) ?_
 clear hK K
 iterate 2 (refine aP (by kernel_rfl) (by kernel_rfl) (fun K hK=>?_);go_big_quiet_op;refine hK _ ?_;clear hK K)
 refine aU (by rfl) (by rfl) (fun K hK=>?_)
 go_wp2_with fail
 refine hK _ _ (dw ((zg V g (i0*17+11) (.int .i64 f)).trans (zg _ g (i0*17+12) (.int .i64 la))).drew) ?_
 clear hK K
 have ake:But (one g) V ((V.setCell ⟨g,i0*17+11,none⟩ (.int .i64 f)).setCell ⟨g,i0*17+12,none⟩ (.int .i64 la)).drew:=((zg V g (i0*17+11) (.int .i64 f)).trans (zg _ g (i0*17+12) (.int .i64 la))).drew
 have WV:=ajY WS (i0*17+11) (i0*17+12) (.int .i64 f) (.int .i64 la)
 have aqC:((cur.setIfInBounds (i0*17+11) (.int .i64 f)).setIfInBounds (i0*17+12) (.int .i64 la))[i0*17+13]?=some (.int .i64 X[i0].2.gQ):=by
  rw[Array.getElem?_setIfInBounds,if_neg (by omega),Array.getElem?_setIfInBounds,if_neg (by omega)]
  exact h13
 generalize ((V.setCell ⟨g,i0*17+11,none⟩ (.int .i64 f)).setCell ⟨g,i0*17+12,none⟩ (.int .i64 la)).drew=V2 at *
 clear hcg hfg hrg WU h11 h12 h13
 obtain⟨hcg,hfg,hrg,WU⟩:=aB WV
 iterate 2 (refine aP (by kernel_rfl) (by kernel_rfl) (fun K hK=>?_);go_big_quiet_op;refine hK _ ?_;clear hK K)
 refine aU (by rfl) (by rfl) (fun K hK=>?_)
 go_wp2_with fail
 have eH:=ake.trans (zg V2 g (i0*17+13) (.int .i64 su))
 have hUg:=dI (o:=i0*17+13) (.int .i64 su) WV
 refine hK _ _ (dw eH) ?_
 clear hK K
 refine bV ?_
 generalize V2.setCell ⟨g,i0*17+13,none⟩ (.int .i64 su)=U at *
 have hX':=HX0.out
 have Np:X'.length=X.length:=by rw[hX',List.length_set]
 have jY:=(eH.block _ hwl nb).trans DY
 have hUz:aS U (w.heap.size+1+1) 0 4=true:=(sS (eH.block _ GZ (bu (Ne.symm hgz))) 0 4).trans hVz
 have UJ:=eH.size
 have hBU:Below w.heap.size w U:=((But.of_below (S:=fun k=>w.heap.size≤k) jf).trans (eH.mono fun k (hk:k=g)=>hk▸WT)).below (Nat.le_refl _) fun k hk=>hk
 obtain⟨hcU,hfU,-,aqF⟩:=aB jY
 have hset:=dI (o:=1) (.int .i64 (D.ay+1)) jY
 have DK:row? (U.setCell ⟨w.heap.size,1,none⟩ (.int .i64 (D.ay+1))) w.heap.size 0 4=some (ak ⟨some ⟨g,0,none⟩,uu⟩ q {D with entries:=X'.map (·.2),ay:=D.ay+1}):=(bQ hset).trans (by rw[TS,show ak ⟨some ⟨g,0,none⟩,uu⟩ q {D with entries:=X.map (·.2),ay:=D.ay+1}=ak ⟨some ⟨g,0,none⟩,uu⟩ q {D with entries:=X'.map (·.2),ay:=D.ay+1} from ajZ (by simp[Np]) rfl rfl rfl];exact aiL _ _ _)
 have hcp:aS (U.setCell ⟨w.heap.size,1,none⟩ (.int .i64 (D.ay+1))) (w.heap.size+1+1) 0 4=true:=(lZ hne2).trans hUz
 have hrx:=aj1 (cur:=cur) (X:=X) i0 hi0 f la su (fun i hi=>by have:=Nl i hi;rwa[List.getElem_map]at this)
 have HRX:Hid (∀i (hi:i<X'.length),fO (((cur.setIfInBounds (i0*17+11) (.int .i64 f)).setIfInBounds (i0*17+12) (.int .i64 la)).setIfInBounds (i0*17+13) (.int .i64 su)) (i*17) 17=some (cu X'[i])):=Lib.hid (by subst hX';exact hrx)
 have Nq:=Lib.hid Np
 clear hrx hX' Np
 have WX:=Lib.hid hUg
 have Nr:=Lib.hid eH
 go_wp2_with fail
 have hrow2:=iO (jD ⟨some ⟨g,0,none⟩,uu⟩ q {D with entries:=X'.map (·.2),ay:=D.ay+1}) hcp
 refine bodyPost_ret (jE (by rfl) Tryz.underlying32 rfl (by kernel_rfl) rfl hrow2) rfl ?_
 refine⟨⟨some ⟨g,0,none⟩,uu⟩,rfl,Go.WW.Below.putRow (hBU.setCell (Nat.le_refl _) _) hw2,fun y hy=>?_⟩
 have hgl:g<U.heap.size:=(Array.getElem?_eq_some_iff.1 WX.out).1
 have hyg:y.heap[g]?=U.heap[g]?:=by
  rw[hy g ⟨WT,by rw[kN];simp only[World.setCell,Array.size_modify];exact hgl⟩,iI hgz,Below.heap_setCell _ _ _ _ hgw]
 refine⟨by rw[Nq.out];exact hX.1,fun i hi=>⟨g,0,cu X'[i],rfl,?_,_,List.getElem?_eq_getElem hi,rfl⟩⟩
 rw[Nat.zero_add,bQ (hyg.trans WX.out)]
 exact HRX.out i hi
end Go.Proofs.YtfieenjdcpjmgaaGreatDoor
namespace Go.WW
open Go.RowKit
section
variable {P:Program} {ops:Array Oper} {S:World→Prop} {st:Oper→Bool} {Q:Act→World→Prop}
theorem aki{m:Array (List Nat)}(hok:qM st ops m){Q':Exit→Act→World→Prop}{z:Oper}{N:Nat}(hN:ops.size=N+1)(hz:ops[N]?=some z)(hzg:z.guard=none)(Ns:∀i,i<N→∃e∈z.after,Region.binds .any e=true∧e.on=i)
  (hQ:∀a w,Q a w→z.wp P a w (fun a' w'=>Q' .normal a' w') never) :
  ∀(n:Nat) (L:List Nat) (listed:Array Bool) (a:Act) (w:World),L.length=n→L.Pairwise (· < ·)→listed.size=ops.size→listed.getD N true=false→(∀j,j∈L↔j<N∧listed.getD j true=false)→
   (∀k o,ops[k]?=some o→listed.getD k false=true→∀e∈o.after,Region.binds .any e=true→listed.getD e.on false=true)→
   S w→aH P ops st S Q (L.filterMap (ops[·]?)) a w→wpAny P .any ops Q' (n+1) listed a w:=by
 intro n
 induction n with
 |zero=>
  intro L listed a w hn _ hsz zh hL hdown _ h
  have:L=[]:=List.eq_nil_of_length_eq_zero hn
  subst this
  have hls:∀i,i<N→listed.getD i false=true:=fun i hi=>by
   have h2:listed.getD i true≠false:=fun hf=>by have:=(hL i).2 ⟨hi,hf⟩;cases this
   have hes:i<listed.size:=by omega
   simp[hes]at h2 ⊢;exact h2
  refine⟨fun hr=>?_,fun i hi=>?_⟩
  ·have:N∈Region.ready .any ops listed:=mem_ready.2 ⟨zh,z,hz,fun e he hb=>hls _ (by have:=hok.back N z hz e he hb;exact this)⟩
   rw[hr]at this;cases this
  ·obtain⟨h0,o,ho,_⟩:=mem_ready.1 hi
   have his:i<ops.size:=(Array.getElem?_eq_some_iff.1 ho).1
   have hiN:i=N:=Classical.byContradiction fun hne=>by
    have:=(hL i).2 ⟨by omega,h0⟩;cases this
   subst hiN
   rw[hz]at ho;cases ho
   have hend:∀a' w',Q' .normal a' w'→wpAny P .any ops Q' 0 (listed.setIfInBounds i true) a' w':=fun a' w' hq=>by
    refine⟨?_,hq⟩
    cases hr:Region.ready .any ops (listed.setIfInBounds i true)with
    |nil=>rfl
    |cons k r=>
     have hk:k∈Region.ready .any ops (listed.setIfInBounds i true):=by rw[hr];simp
     obtain⟨h1,o',ho',_⟩:=mem_ready.1 hk
     have hks:k<ops.size:=(Array.getElem?_eq_some_iff.1 ho').1
     exfalso
     by_cases hki:k=i
     ·subst hki
      have:k<listed.size:=by omega
      simp[this]at h1
     ·rw[getD_set_ne true (Ne.symm hki)]at h1
      have:=(hL k).2 ⟨by omega,h1⟩;cases this
   unfold wpOp
   simp only[hz,Region.wanted,hzg,if_true]
   exact .inl (qL (Oper.wp_mono (fun a' w' hh=>hend a' w' hh) (hQ _ _ h)))
 |succ n ih=>
  intro L listed a w hn hsort hsz zh hL hdown hS h
  refine⟨fun hr=>?_,fun i hi=>?_⟩
  ·exfalso
   cases L with
   |nil=>simp at hn
   |cons j L=>
    obtain⟨hj,hjl⟩:=(hL j).1 (by simp)
    have hj':j<ops.size:=by omega
    have hoj:ops[j]?=some ops[j]:=by simp[hj']
    have:j∈Region.ready .any ops listed:=by
     refine mem_ready.2 ⟨hjl,_,hoj,fun e he hb=>?_⟩
     have hlt:=hok.back j _ hoj e he hb
     have hnot:e.on∉j::L:=by
      intro hmem
      rcases List.mem_cons.1 hmem with h1|h1
      ·omega
      ·have:=(List.pairwise_cons.1 hsort).1 _ h1;omega
     have h2:listed.getD e.on true≠false:=fun hf=>hnot ((hL e.on).2 ⟨by omega,hf⟩)
     have hes:e.on<listed.size:=by omega
     simp[hes]at h2 ⊢;exact h2
    rw[hr]at this;cases this
  ·obtain⟨h0,o,ho,hall⟩:=mem_ready.1 hi
   have his:i<ops.size:=(Array.getElem?_eq_some_iff.1 ho).1
   have hiN:i≠N:=fun e=>by
    subst e
    rw[hz]at ho;cases ho
    cases L with
    |nil=>simp at hn
    |cons j L=>
     obtain⟨hj,hjl⟩:=(hL j).1 (by simp)
     obtain⟨e,he,hb,rfl⟩:=Ns j hj
     have:=hall e he hb
     rw[sV this]at hjl;cases hjl
   have hiL:i∈L:=(hL i).2 ⟨by omega,h0⟩
   obtain⟨L1,L2,rfl⟩:=List.append_of_mem hiL
   have dN:=List.pairwise_append.1 hsort
   have hlt1:∀x∈L1,x<i:=fun x hx=>dN.2.2 x hx i (by simp)
   have hgt2:∀x∈L2,i<x:=fun x hx=>(List.pairwise_cons.1 dN.2.1).1 x hx
   rw[List.filterMap_append,List.filterMap_cons_some ho]at h
   have bY:=lV (P:=P) (ops:=ops) (S:=S) (st:=st) (Q:=Q) (Region.noSelect_spec hok.jl i o · · ho) (L1.filterMap (ops[·]?)) (fun x hx=>by
    obtain⟨k,hk,hox⟩:=List.mem_filterMap.1 hx
    have hkl:=((hL k).1 (by simp[hk])).2
    have hnl:¬listed.getD k false=true:=fun hf=>by rw[sV hf]at hkl;cases hkl
    refine⟨(Region.noSelect_spec hok.jl k x · · hox),?_⟩
    rcases hok.pair i o ho k (hlt1 k hk) x hox with⟨e,he,hb,rfl⟩|⟨hap,hor⟩
    ·exact absurd (hall e he hb) hnl
    ·refine⟨hap,?_⟩
     rcases hor with h1|h1|h1
     ·exact .inl h1
     ·exact .inr h1
     ·exact absurd (Ad hok hdown i o ho hall k h1) hnl) a w hS h
   have hrest:∀a' w',S w'→aH P ops st S Q (L1.filterMap (ops[·]?)++L2.filterMap (ops[·]?)) a' w'→wpAny P .any ops Q' (n+1) (listed.setIfInBounds i true) a' w':=by
    intro a' w' hS' hh
    rw[←List.filterMap_append]at hh
    refine ih (L1++L2) (listed.setIfInBounds i true) a' w' ?_ ?_ (by simpa using hsz) (by rw[getD_set_ne true hiN];exact zh) ?_ ?_ hS' hh
    ·simp at hn ⊢;omega
    ·exact List.pairwise_append.2 ⟨dN.1,(List.pairwise_cons.1 dN.2.1).2,fun x hx y hy=>dN.2.2 x hx y (by simp[hy])⟩
    ·intro j
     by_cases hji:j=i
     ·subst hji
      constructor
      ·intro hm
       exfalso
       rcases List.mem_append.1 hm with h1|h1
       ·have:=hlt1 _ h1;omega
       ·have:=hgt2 _ h1;omega
      ·rintro⟨_,hf⟩
       have:j<listed.size:=by omega
       simp[this]at hf
     ·rw[getD_set_ne true (Ne.symm hji),←hL j]
      simp[hji]
    ·intro k ok hk hkl e he hb
     by_cases hki:k=i
     ·subst hki
      rw[ho]at hk;cases hk
      exact getD_set_true (hall e he hb)
     ·rw[getD_set_ne false (Ne.symm hki)]at hkl
      exact getD_set_true (hdown k ok hk hkl e he hb)
   unfold wpOp
   simp only[ho]
   rw[bJ]at bY
   split
   ·rename_i hw
    rw[if_pos hw]at bY
    refine .inl ?_
    by_cases hs:st o=true
    ·rw[if_pos hs]at bY
     obtain⟨v,hv,hh⟩:=bY
     unfold Oper.wp
     rw[hv w hS]
     exact hrest _ _ hS hh
    ·rw[if_neg hs]at bY
     exact qL (Oper.wp_mono (fun a' w' hh=>hrest a' w' hh.1 hh.2) bY)
   ·rename_i hw
    rw[if_neg hw]at bY
    exact hrest _ _ hS bY
end
def lastB(ops:List Oper):Bool:=
 match ops.getLast? with
 |some z=>z.guard.isNone&&(List.range (ops.length-1)).all fun i=>z.after.toList.any fun e=>Region.binds .any e&&e.on == i
 |none=>false
def vJ(P:Program)(ops:List Oper)(Q:Act→World→Prop)(a:Act)(w:World):Prop:=
 match ops.getLast? with
 |some z=>z.wp P a w Q never
 |none=>False
theorem akj{P:Program}{id:Nat}{Q':Exit→Act→World→Prop}{a:Act}{w:World}{l:List Oper}(S:World→Prop)(st:Oper→Bool)(hm:P.follows .mixedOrders=true)(hB:lW st l.toArray=true)(hZ:lastB l=true)
  (hS:S w.drew) (h:aH P l.toArray st S (vJ P l fun a' w'=>Q' .normal a' w') l.dropLast a w.drew):(Code.region id l.toArray true).wp P Q' a w:=by
 refine wp_region_any hm ?_
 unfold lastB at hZ
 cases hg:l.getLast? with
 |none=>rw[hg]at hZ;cases hZ
 |some z=>
  rw[hg]at hZ
  simp only[Bool.and_eq_true,List.all_eq_true,List.mem_range]at hZ
  obtain⟨hz1,hz2⟩:=hZ
  have hne:l≠[]:=fun e=>by rw[e]at hg;cases hg
  have hlen:l.length=l.length-1+1:=by have:=List.length_pos_iff.2 hne;omega
  have hzi:l.toArray[l.length-1]?=some z:=by
   rw[List.getLast?_eq_getElem?]at hg;simpa using hg
  have hfm:(List.range (l.length-1)).filterMap (l.toArray[·]?)=l.dropLast:=by
   rw[List.dropLast_eq_take]
   have:∀n,(List.range n).filterMap (fun i=>l.toArray[i]?)=l.take n:=by
    intro n
    induction n with
    |zero=>simp
    |succ n ih=>
     rw[List.range_succ,List.filterMap_append,ih]
     by_cases hn:n<l.length
     ·rw[List.take_succ_eq_append_getElem hn];simp[hn]
     ·simp[hn,List.take_of_length_le (show l.length≤n by omega),List.take_of_length_le (show l.length≤n+1 by omega)]
   exact this _
  have:=aki (P:=P) (S:=S) (Q:=vJ P l fun a' w'=>Q' .normal a' w') (yc hB) (Q':=Q') (z:=z) (N:=l.length-1) (by simpa using hlen) hzi (by simpa using hz1) (fun i hi=>by
    have:=hz2 i hi
    simp only[List.any_eq_true,Bool.and_eq_true,beq_iff_eq]at this
    obtain⟨e,he,hb⟩:=this
    exact⟨e,by simpa using he,hb⟩) (fun a' w' hq=>by unfold vJ at hq;rw[hg]at hq;exact hq) (l.length-1) (List.range (l.length-1)) (Array.replicate l.toArray.size false) a w.drew
   (by simp) List.pairwise_lt_range (by simp) (by
     have:l.length-1<l.length:=by omega
     simp[this]) (by intro j;simp;intro h1;simp[show j<l.length by omega]) (by intro k o hk hkl;exfalso;rw[Array.getD_eq_getD_getElem?,Array.getElem?_replicate]at hkl;split at hkl<;>simp at hkl) hS (by rw[hfm];exact h)
  rw[←hlen]at this
  simpa using this
end Go.WW
