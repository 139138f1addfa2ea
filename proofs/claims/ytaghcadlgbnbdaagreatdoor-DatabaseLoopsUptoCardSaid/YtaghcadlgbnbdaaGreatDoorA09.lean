/- A part of the proof. -/
import Derived.Test.YtaghcadlgbnbdaaGreatDoorA08
import Derived.Test.YtaghcadlgbnbdaaGreatDoorA07
import Derived.Test.YtaghcadlgbnbdaaGreatDoorA02
import Derived.Test.YtaghcadlgbnbdaaGreatDoorA05
set_option maxRecDepth 100000
set_option maxHeartbeats 16000000
namespace Go.WW
open Go.RowKit
theorem Yt{L:List ah}(hn:(L.map (·.name)).Nodup){i j:Nat}(hi:i<L.length)(hj:j<L.length)(e:L[i].name=L[j].name):i=j:=
 Jc hn (i:=i) (j:=j) (by simpa using hi) (by simpa using hj) (by simpa using e)
theorem BD{L:List ah}{k:ByteArray}{i:Nat}(hi:i<L.length)(e:L[i].name=k):L.any (fun x=>decide (x.name=k))=true:=
 List.any_eq_true.2 ⟨_,List.getElem_mem hi,by simpa using e⟩
theorem aj3{D D1 D2:Db}{q:ah}{n1 n2:Int}(hn:(D.ax.map (·.name)).Nodup)(h1:ou D q n1 D1)(h2:ou D q n2 D2):n1=n2∧D1=D2:=by
 cases h1 with
 |bad hv=>
  cases h2 with
  |bad=>exact⟨rfl,rfl⟩
  |new hv'=>rw[hv]at hv';cases hv'
  |old hv'=>rw[hv]at hv';cases hv'
 |new hv ha=>
  cases h2 with
  |bad hv'=>rw[hv]at hv';cases hv'
  |new=>exact⟨rfl,rfl⟩
  |old hv' i hi hnm=>rw[BD hi hnm]at ha;cases ha
 |old hv i hi hnm=>
  cases h2 with
  |bad hv'=>rw[hv]at hv';cases hv'
  |new hv' ha=>rw[BD hi hnm]at ha;cases ha
  |old hv' j hj hnm'=>
   obtain rfl:=Yt hn hi hj (hnm.trans hnm'.symm)
   exact⟨rfl,rfl⟩
theorem Jo{L:List ah}{d:Entry}(h:l9 L d)(hpe:¬d.aK=⟨#[]⟩)(hn:L.any (fun x=>decide (x.name=d.aK))=false):False:=by
 rcases h with h|h
 ·exact hpe h
 ·rw[hn]at h;cases h
theorem aj6{D D1 D2:Db}{X X1 X2:List EE}{r:aI}{d:Entry}{n1 n2:Int}(hg:gy (X.map (·.2)))(h1:nG D X r d n1 D1 X1)(h2:nG D X r d n2 D2 X2):n1=n2∧D1=D2∧X1=X2:=by
 cases h1 with
 |bad hv=>
  cases h2 with
  |bad=>exact⟨rfl,rfl,rfl⟩
  |vV hv' hre=>rcases hv with h|h;rw[h]at hv';cases hv';exact absurd hre h
  |busy hv' hre=>rcases hv with h|h;rw[h]at hv';cases hv';exact absurd hre h
  |put hv' hre=>rcases hv with h|h;rw[h]at hv';cases hv';exact absurd hre h
 |vV hv hre hpe hn=>
  cases h2 with
  |bad hv'=>rcases hv' with h|h;rw[h]at hv;cases hv;exact absurd hre h
  |vV=>exact⟨rfl,rfl,rfl⟩
  |busy _ _ hp=>exact(Jo hp hpe hn).elim
  |put _ _ hp=>exact(Jo hp hpe hn).elim
 |busy hv hre hp hx=>
  cases h2 with
  |bad hv'=>rcases hv' with h|h;rw[h]at hv;cases hv;exact absurd hre h
  |vV _ _ hpe hn=>exact(Jo hp hpe hn).elim
  |busy=>exact⟨rfl,rfl,rfl⟩
  |put _ _ _ hx'=>obtain⟨x,OQ,hb,hne⟩:=hx;exact absurd (hx' x OQ hb) hne
 |put hv hre hp hx A hs hA=>
  cases h2 with
  |bad hv'=>rcases hv' with h|h;rw[h]at hv;cases hv;exact absurd hre h
  |vV _ _ hpe hn=>exact(Jo hp hpe hn).elim
  |busy _ _ _ hx'=>obtain⟨x,OQ,hb,hne⟩:=hx';exact absurd (hx x OQ hb) hne
  |put _ _ _ _ B hs' hB=>
   obtain rfl:=ajK hg (A:=A) (B:=B) (fun x hx=>hs.mem hx) (fun x hx=>hs'.mem hx) (hA.trans hB.symm)
   exact⟨rfl,rfl,rfl⟩
theorem OT{x:Entry}{q:aB}(hx:bF x=true):bn x.name q=true↔textOf x.name=fU q:=
 (OM (vU hx _ (List.mem_cons_self ..))).symm
theorem aj7{X:List EE}{q:aB}(hg:gy (X.map (·.2))){i j:Nat}(hi:i<X.length)(hj:j<X.length)(h1:bn X[i].2.name q=true)(h2:bn X[j].2.name q=true):i=j:=by
 have a:=(OT (hg.ok _ (List.mem_map.2 ⟨_,List.getElem_mem hi,rfl⟩))).1 h1
 have b:=(OT (hg.ok _ (List.mem_map.2 ⟨_,List.getElem_mem hj,rfl⟩))).1 h2
 exact Bz hg (i:=i) (j:=j) (by simpa using hi) (by simpa using hj) (by simpa using a.trans b.symm)
theorem aj8{D D1 D2:Db}{X X1 X2:List EE}{q:aB}{n1 n2:Int}(hg:gy (X.map (·.2)))(h1:vW D X q n1 D1 X1)(h2:vW D X q n2 D2 X2):n1=n2∧D1=D2∧X1=X2:=by
 cases h1 with
 |none hn=>
  cases h2 with
  |none=>exact⟨rfl,rfl,rfl⟩
  |yes i hi hs=>rw[hn _ (List.getElem_mem hi)]at hs;cases hs
 |yes i hi hs=>
  cases h2 with
  |none hn=>rw[hn _ (List.getElem_mem hi)]at hs;cases hs
  |yes j hj hs'=>
   obtain rfl:=aj7 hg hi hj hs hs'
   exact⟨rfl,rfl,rfl⟩
theorem aj9{D D1 D2:Db}{X X1 X2:List EE}{q:aB}{f a b n1 n2:Int}(h1:uI D X q f a b n1 D1 X1)(h2:uI D X q f a b n2 D2 X2):n1=n2∧D1=D2∧X1=X2:=by
 cases h1 with
 |bad hv=>
  cases h2 with
  |bad=>exact⟨rfl,rfl,rfl⟩
  |none hv'=>rw[hv]at hv';cases hv'
  |yes hv'=>rw[hv]at hv';cases hv'
 |none hv hn=>
  cases h2 with
  |bad hv'=>rw[hv]at hv';cases hv'
  |none=>exact⟨rfl,rfl,rfl⟩
  |yes _ i hi hs=>rw[hn _ (List.getElem_mem hi)]at hs;cases hs
 |yes hv i hi hs=>
  cases h2 with
  |bad hv'=>rw[hv]at hv';cases hv'
  |none _ hn=>rw[hn _ (List.getElem_mem hi)]at hs;cases hs
  |yes=>exact⟨rfl,rfl,rfl⟩
theorem aka{D D1 D2:Db}{k:ByteArray}{n1 n2:Int}(hn:(D.ax.map (·.name)).Nodup)(h1:uG D k n1 D1)(h2:uG D k n2 D2):n1=n2∧D1=D2:=by
 cases h1 with
 |none ha=>
  cases h2 with
  |none=>exact⟨rfl,rfl⟩
  |busy i hi hnm=>rw[BD hi hnm]at ha;cases ha
  |yes i hi hnm=>rw[BD hi hnm]at ha;cases ha
 |busy i hi hnm hb=>
  cases h2 with
  |none ha=>rw[BD hi hnm]at ha;cases ha
  |busy=>exact⟨rfl,rfl⟩
  |yes j hj hnm' hb'=>obtain⟨x,hx,e⟩:=hb;exact absurd e (hb' x hx)
 |yes i hi hnm hb=>
  cases h2 with
  |none ha=>rw[BD hi hnm]at ha;cases ha
  |busy j hj hnm' hb'=>obtain⟨x,hx,e⟩:=hb';exact absurd e (hb x hx)
  |yes j hj hnm'=>
   obtain rfl:=Yt hn hi hj (hnm.trans hnm'.symm)
   exact⟨rfl,rfl⟩
theorem bz.touched{w:World}{r:aI}{d:Entry}(h:bz w r d)(k:ByteArray)(f a b:Int):bz w r (iO k f a b d):=by
 unfold iO
 split
 ·exact⟨h.name,h.aliases,h.keys,h.targets,h.bH,h.history,h.aK,h.attrs⟩
 ·exact h
theorem lC.grow{S S':Nat→Prop}{w:World}{x:EE}(h:lC S w x)(hS:∀k,S' k→k<w.heap.size→S k):lC S' w x:=
 fun y hy=>h y ⟨hy.os,hy.tape,hy.output,hy.size,fun k hk hn=>hy.block k hk fun hs=>hn (hS k hs hk)⟩
theorem ja.grow{S S':Nat→Prop}{w:World}{Φ:World→Prop}(h:ja S w Φ)(hS:∀k,S' k→k<w.heap.size→S k):ja S' w Φ:=
 fun y hy=>h y ⟨hy.os,hy.tape,hy.output,hy.size,fun k hk hn=>hy.block k hk fun hs=>hn (hS k hs hk)⟩
end Go.WW
namespace Go.Proofs.YtaghcadlgbnbdaaGreatDoor
open Go.RowKit Go.WW
def zB(S:Nat→Prop)(b n e p:Nat)(re:ByteArray)(s:Int)(D D':Db)(X':List EE)(no:Int)(w:World)(z:Ending)(w':World):Prop:=
 z=.returned (.int .i64 no)∧But (aX b n e p) w w'∧∃mf E' P',jm S b n e p re (s+(D'.ay-D.ay)) mf E' P' w'∧iG D' X' mf E' P'
section
variable (S:Nat→Prop) (b n e p:Nat) (re:ByteArray) (s:Int) (NL:List (ByteArray×ByteArray)) (E:List EE) (P:List ah) (D D':Db) (X X':List EE) (no:Int) (w:World)
theorem zC(h:jm S b n e p re s NL E P w)(hr:iG D X NL E P):∀(z:Ending) (w':World),(z=.returned (.int .i64 no)∧Below w.heap.size w w')→zB S b n e p re s D D X no w z w':=by
 rintro z w' ⟨rfl,hb⟩
 exact⟨rfl,But.of_below hb,NL,E,P,by rw[Int.sub_self,Int.add_zero];exact h.later hb,hr⟩
theorem akb(r:aI)(d:Entry)(r2:aI)(h:jm S b n e p re s NL E P w)(hre:¬re=⟨#[]⟩)(hDr:D.aG=re)(hr:iG D X NL E P)(hst:nG D X r d no D' X')(he:bz w r2 d)(hlt:∀k,S k→k<w.heap.size)(hn:X.length<4096)(hs0:0≤s)(hs1:s<1000000) :
  Calls Tryz.prog 18 #[.pointer (some ⟨b,0,none⟩),.agg (ae r2 d)] w (zB S b n e p re s D D' X' no w):=by
 have same:=zC S b n e p re s NL E P D X
 have hEl:E.length<4096:=by have:=hr.perm.length_eq;simp at this;omega
 have main:bF d=true→d.name.aG=D.aG→l9 D.ax d→∃N1 E1,uw (gQ NL) E (textOf d.name) N1 E1∧Calls Tryz.prog 18 #[.pointer (some ⟨b,0,none⟩),.agg (ae r2 d)] w (Xo b n e p re s NL N1 E1 P d w):=by
  intro hv hrl hp
  have hR:∃N1 E1,uw (gQ NL) E (textOf d.name) N1 E1:=by
   by_cases hx:∃x∈E,textOf x.2.name=textOf d.name
   ·obtain⟨x,hx,e'⟩:=hx
    exact⟨_,_,.inl ⟨x,hx,e',rfl,rfl⟩⟩
   ·exact⟨_,_,.inr ⟨fun x hx' e'=>hx ⟨x,hx',e'⟩,rfl,rfl⟩⟩
  obtain⟨N1,E1,hR⟩:=hR
  refine⟨N1,E1,hR,aiv b n e p re s NL N1 E E1 P r2 d w h.db hre he (fun x hx=>⟨fun y hy=>h.keep x hx y (hy.mono h.sub),fun q hq=>vU (hr.good.ok x.2 (List.mem_map.2 ⟨x,hx,rfl⟩)) q hq⟩) hR (fun q hq=>vU hv q hq) hv (hrl.trans hDr) ?_ ?_ hEl hs0 hs1⟩
  ·rcases hp with hp|hp
   ·exact .inl hp
   ·exact .inr (by rw[hr.eu.any];exact hp)
  ·intro k o o' ho ho'
   obtain⟨x,hx,rfl,q,hq,hk⟩:=(hr.names k o).1 ho
   obtain⟨y,hy,rfl,q',hq',hk'⟩:=(hr.names k o').1 ho'
   exact hr.good.apart x hx y hy q hq q' hq' (hk.symm.trans hk')
 cases hst with
 |bad hv=>
  rcases hv with hv|hv
  ·exact(Xi b n e p re s _ E P r2 d w h.db hre he hv).mono (same 2 w h hr)
  ·cases hv2:bF d with
   |false=>exact(Xi b n e p re s _ E P r2 d w h.db hre he hv2).mono (same 2 w h hr)
   |true=>exact(ait b n e p re s _ E P r2 d w h.db hre he hv2 (by rw[←hDr];exact hv)).mono (same 2 w h hr)
 |vV hv hrl hpe ha=>exact(aiu b n e p re s _ E P r2 d w h.db hre he hv (hrl.trans hDr) hpe (by rw[hr.eu.any];exact ha)).mono (same 9 w h hr)
 |busy hv hrl hp hx=>
  obtain⟨N1,E1,hR,hc⟩:=main hv hrl hp
  refine hc.mono ?_
  rintro z w' (⟨rfl,-,hb⟩|⟨-,hf,-⟩)
  ·exact same 11 w h hr _ _ ⟨rfl,hb⟩
  ·obtain⟨x,jl,hxb,qx⟩:=hx
   exact absurd ((XR hr.names hr.good hv).2 ⟨x,hr.perm.mem_iff.2 jl,hxb,qx⟩) (OC.1 hf)
 |put hv hrl hp hx X1 hs1' h1=>
  obtain⟨N1,E1,hR,hc⟩:=main hv hrl hp
  refine hc.mono ?_
  rintro z w' (⟨rfl,hbz,-⟩|⟨rfl,-,hb,r',hk',oC⟩)
  ·have hf:=(hr.put (r:=r) (r':=r) hv hp hx X1 hs1' h1 hR).1
   exact absurd hbz (OC.1 hf)
  ·obtain⟨-,mf,e1,hpl⟩:=hr.put (r:=r) (r':=r') hv hp hx X1 hs1' h1 hR
   rw[show d.name::d.aliases=iM d from rfl,e1]at oC
   refine⟨rfl,hb,mf,_,P,⟨by show bT _ _ _ _ _ _ (s+(D.ay+1-D.ay)) _ _ _;rw[show s+(D.ay+1-D.ay)=s+1 by omega];exact oC,fun x hx'=>?_,h.sub⟩,hpl⟩
   rcases List.mem_append.1 hx' with hx'|hx'
   ·have:x∈E:=aiK hR x hx'
    exact(h.keep x this).on (hb.mono h.sub)
   ·simp only[List.mem_singleton]at hx';subst hx';exact fun y hy=>hk' y (hy.mono hlt)
theorem akc(q:ah)(h:jm S b n e p re s NL E P w)(hre:¬re=⟨#[]⟩)(hr:iG D X NL E P)(hst:ou D q no D')(hs:q.name.size≤lim)(hn:P.length<64)(hs0:0≤s)(hs1:s<1000000) :
  Calls Tryz.prog 24 #[.pointer (some ⟨b,0,none⟩),.agg (az q)] w (zB S b n e p re s D D' X no w):=by
 have hD:=Yf hst
 have hkeep:=ajt hst hr.eu.nodup
 have out:∀(D':Db),D'.entries=D.entries→D'.aG=D.aG→D'.ay=D.ay+1→(∀x∈D.ax,∃y∈D'.ax,y.name=x.name)→lZ (qj P q) D'.ax→∀(z:Ending) (w':World),(z=.returned (.int .i64 0)∧But (aX b n e p) w w'∧bT w' b n e p re (s+1) (gQ NL) E (qj P q))→
   zB S b n e p re s D D' X 0 w z w':=by
  rintro D' h1 h2 h3 h5 h4 z w' ⟨rfl,hb,hd⟩
  refine⟨rfl,hb,NL,E,_,⟨by rw[h3,show s+(D.ay+1-D.ay)=s+1 by omega];exact hd,fun x hx=>(h.keep x hx).on (hb.mono h.sub),h.sub⟩,⟨h1.trans hr.eq,hr.names,hr.good,hr.perm,hr.sorted,h4,fun x hx=>?_⟩⟩
  exact(hr.has x hx).mono h5
 cases hst with
 |bad hv=>exact(ah9 b n e p re s _ E P q w h.db hre hs hv).mono (zC S b n e p re s NL E P D X 2 w h hr)
 |new hv ha=>
  exact(aia b n e p re s _ E P q w h.db hre hs hv (by rw[hr.eu.any];exact ha) hn hs0 hs1).mono (out {D with ax:=dY q (-1) 0 false D.ax,ay:=D.ay+1} rfl rfl rfl hkeep (hr.eu.new hv ha))
 |old hv i hi hnm=>
  exact(aib b n e p re s _ E P q w h.db hre hs hv D.ax[i] (hr.eu.perm.mem_iff.2 (List.getElem_mem hi)) hnm hs0 hs1).mono (out {D with ax:=dY q (i:Int) 0 false D.ax,ay:=D.ay+1} rfl rfl rfl hkeep (hr.eu.old hv hi hnm))
theorem akd(t:Sl)(q:aB)(h:jm S b n e p re s NL E P w)(hre:¬re=⟨#[]⟩)(hr:iG D X NL E P)(hst:vW D X q no D' X')(hq:bg w t q)(hs0:0≤s)(hs1:s<1000000) :
  Calls Tryz.prog 22 #[.pointer (some ⟨b,0,none⟩),.agg (ak t q)] w (zB S b n e p re s D D' X' no w):=by
 cases hst with
 |none hn=>exact(ajQ b n e p re s _ E P t q w h.db hre hq (hr.Yk hn)).mono (zC S b n e p re s NL E P D X 9 w h hr)
 |yes i hi hn=>
  obtain⟨x0,hx0,hk,hpl⟩:=hr.Yl hi hn
  refine(ajR b n e p re s _ E P t q w h.db hre hq (fun x hx=>⟨fun y hy=>h.keep x hx y (hy.mono h.sub),fun q hq=>vU (hr.good.ok x.2 (List.mem_map.2 ⟨x,hx,rfl⟩)) q hq⟩) hs0 hs1 x0 hx0 hk).mono ?_
  rintro z w' ⟨rfl,hb,hd⟩
  rw[OB]at hd
  exact⟨rfl,hb,_,_,P,⟨by show bT _ _ _ _ _ _ (s+(D.ay+1-D.ay)) _ _ _;rw[show s+(D.ay+1-D.ay)=s+1 by omega];exact hd,fun x hx=>(h.keep x (List.mem_filter.1 hx).1).on (hb.mono h.sub),h.sub⟩,hpl⟩
theorem ake(t:Sl)(q:aB)(f la su:Int)(h:jm S b n e p re s NL E P w)(hre:¬re=⟨#[]⟩)(hr:iG D X NL E P)(hst:uI D X q f la su no D' X')(hq:bg w t q)(hs0:0≤s)(hs1:s<1000000) :
  Calls Tryz.prog 37 #[.pointer (some ⟨b,0,none⟩),.agg (ak t q),.int .i64 f,.int .i64 la,.int .i64 su] w (zB S b n e p re s D D' X' no w):=by
 cases hst with
 |bad hv=>exact(ajS b n e p re s _ E P t q f la su w h.db hre hv).mono (zC S b n e p re s NL E P D X 2 w h hr)
 |none hv hn=>exact(ajT b n e p re s _ E P t q f la su w h.db hre hq hv (hr.Yk hn)).mono (zC S b n e p re s NL E P D X 9 w h hr)
 |yes hv i hi hn=>
  obtain⟨x0,hx0,hk,-⟩:=hr.Yl hi hn
  refine(ajU b n e p re s _ E P t q f la su w h.db hre hq hv hr.good hs0 hs1 x0 hx0 hk).mono ?_
  rintro z w' ⟨rfl,hb,hd⟩
  refine⟨rfl,hb,NL,_,P,⟨by show bT _ _ _ _ _ _ (s+(D.ay+1-D.ay)) _ _ _;rw[show s+(D.ay+1-D.ay)=s+1 by omega];exact hd,fun x hx=>?_,h.sub⟩,hr.touch (fU q) hv⟩
  obtain⟨z,hz,rfl⟩:=List.mem_map.1 hx
  exact fun y hy=>(h.keep z hz y ((hb.mono h.sub).trans hy)).touched _ _ _ _
theorem akf(k:ByteArray)(h:jm S b n e p re s NL E P w)(hre:¬re=⟨#[]⟩)(hr:iG D X NL E P)(hst:uG D k no D')(hs0:0≤s)(hs1:s<1000000) :
  Calls Tryz.prog 25 #[.pointer (some ⟨b,0,none⟩),.string k] w (zB S b n e p re s D D' X no w):=by
 cases hst with
 |none ha=>exact(ajW b n e p re s _ E P k w h.db hre (by rw[hr.eu.any];exact ha)).mono (zC S b n e p re s NL E P D X 9 w h hr)
 |busy i hi hnm hb=>
  subst hnm
  refine(ajX b n e p re s _ E P D.ax[i] w h.db hre (hr.eu.perm.mem_iff.2 (List.getElem_mem hi)) ?_).mono (zC S b n e p re s NL E P D X 11 w h hr)
  obtain⟨x,hx,ex⟩:=hb
  rw[hr.eq]at hx
  obtain⟨y,hy,ey⟩:=List.mem_map.1 (hr.perm.mem_iff.2 hx)
  exact⟨y,hy,by rw[ey];exact ex⟩
 |yes i hi hnm hb=>
  subst hnm
  refine(ajY b n e p re s _ E P D.ax[i] w h.db hre (hr.eu.perm.mem_iff.2 (List.getElem_mem hi)) ?_ hs0 hs1).mono ?_
  ·intro x hx ex
   refine hb x.2 ?_ ex
   rw[hr.eq]
   exact hr.perm.mem_iff.1 (List.mem_map.2 ⟨x,hx,rfl⟩)
  ·rintro z w' ⟨rfl,hb',hd⟩
   exact⟨rfl,hb',NL,E,_,⟨by show bT _ _ _ _ _ _ (s+(D.ay+1-D.ay)) _ _ _;rw[show s+(D.ay+1-D.ay)=s+1 by omega];exact hd,fun x hx=>(h.keep x hx).on (hb'.mono h.sub),h.sub⟩,hr.ajE hi hb⟩
end
end Go.Proofs.YtaghcadlgbnbdaaGreatDoor
namespace Go.WW
open Go.RowKit
theorem OU{cs r:Array Value}{o n j:Nat}{v:Value}(h:eQ cs o n=some r)(hj:j<n):eQ (cs.setIfInBounds (o+j) v) o n=some (r.setIfInBounds j v):=by
 unfold eQ at h ⊢
 rw[Array.size_setIfInBounds]
 split at h
 ·rename_i hle
  rw[if_pos hle]
  cases h
  congr 1
  apply Array.ext_getElem?
  intro i
  rw[Array.getElem?_setIfInBounds]
  by_cases hi:i<n
  ·rw[Array.getElem?_extract,Array.getElem?_extract,Array.getElem?_setIfInBounds]
   have e1:i<min (o+n) cs.size-o:=by omega
   have e2:i<min (o+n) (cs.setIfInBounds (o+j) v).size-o:=by rw[Array.size_setIfInBounds];omega
   simp only[e1,e2,if_true]
   by_cases e:j=i
   ·subst e
    rw[if_pos rfl,if_pos rfl,if_pos (by omega),if_pos (by simp;omega)]
   ·rw[if_neg (by omega),if_neg e]
  ·rw[Array.getElem?_eq_none (by simp;omega),if_neg (by omega),Array.getElem?_eq_none (by simp;omega)]
 ·cases h
theorem OV{cs:Array Value}{o n j:Nat}{v:Value}(hj:j<o∨o+n≤j):eQ (cs.setIfInBounds j v) o n=eQ cs o n:=by
 unfold eQ
 rw[Array.size_setIfInBounds]
 split
 ·congr 1
  apply Array.ext_getElem?
  intro i
  rw[Array.getElem?_extract,Array.getElem?_extract,Array.getElem?_setIfInBounds,Array.size_setIfInBounds]
  split
  ·rw[if_neg (by omega)]
  ·rfl
 ·rfl
theorem fB.src{w:World}{a:Option Addr}{X:List EE}(h:fB w a X):bJ w 17 a (X.map bC):=
 ⟨fun r hr=>by obtain⟨x,_,rfl⟩:=List.mem_map.1 hr;exact He _ _,fun r hr=>by obtain⟨x,_,rfl⟩:=List.mem_map.1 hr;exact Tq _ _,fun i hi=>by
  obtain⟨b,o,cs,ha,hr,x,hx,rfl⟩:=h.2 i (by simpa using hi)
  exact⟨b,o,ha,by rw[hr,List.getElem_map,(List.getElem?_eq_some_iff.1 hx).2]⟩⟩
theorem Own.cur{w:World}{base k:Nat}{e:TypeId}{s:Sl}{rows:List (Array Value)}(h:Own w base e k s rows)(hn:0<rows.length) :
  ∃g cur,s.a=some ⟨g,0,none⟩∧base≤g∧w.heap[g]?=some (.cells cur e)∧rows.length≤s.cap∧rows.length*k≤cur.size∧∀i (hi:i<rows.length),eQ cur (i*k) k=some rows[i]:=by
 rcases h.own.2 with⟨_,hn'⟩|⟨g,cap,cur,hv,hb,hh,hle,_,hsz,_⟩
 ·omega
 ·have ha:s.a=some ⟨g,0,none⟩:=by injection hv
  have hc:s.cap=cap:=by injection hv
  refine⟨g,cur,ha,hb,hh,by omega,by rw[hsz];exact Nat.mul_le_mul_right _ hle,fun i hi=>?_⟩
  obtain⟨g',ha',-,hr⟩:=h.row i hi
  rw[ha]at ha';cases ha'
  rw[bV hh,Nat.zero_add]at hr
  exact hr
theorem akg{cs r:Array Value}{o n:Nat}(h:eQ cs o n=some r)(j:Nat)(hj:j<n):cs[o+j]?=r[j]?:=by
 unfold eQ at h
 split at h
 ·cases h
  rw[Array.getElem?_extract]
  rw[if_pos (by omega)]
 ·cases h
theorem BF(w:World)(b o:Nat)(v:Value):But (one b) w (w.setCell ⟨b,o,Option.none⟩ v):=⟨rfl,rfl,rfl,by simp[World.setCell],fun k _ hn=>Below.heap_setCell _ _ _ _ (show k≠b from hn)⟩
theorem akh{V:World}{g:Nat}{cur:Array Value}{t:TypeId}(h:V.heap[g]?=some (.cells cur t))(a b:Nat)(x y:Value):((V.setCell ⟨g,a,Option.none⟩ x).setCell ⟨g,b,Option.none⟩ y).drew.heap[g]?=some (.cells ((cur.setIfInBounds a x).setIfInBounds b y) t):=cZ (o:=b) _ (cZ (o:=a) _ h)
def xQ(g:Nat):aI:={eX with parts:=⟨some ⟨g,0,none⟩,1⟩}
def qy(f a b:Int):Entry:={ed with name:=⟨[⟨#[97]⟩],⟨#[82]⟩⟩,fails:=f,iw:=a,jw:=b}
theorem OW{w:World}{g:Nat}{t:TypeId}(h:w.heap[g]?=some (.cells #[Value.string ⟨#[97]⟩] t))(f a b:Int):bz w (xQ g) (qy f a b):=by
 have hz:∀(k:Nat) (R:Nat→Array Value→Prop),aO w k none 0 R:=fun k R=>⟨Nat.zero_le _,fun i hi=>absurd hi (Nat.not_lt_zero _)⟩
 refine⟨⟨⟨show 1≤lim by decide,fun i hi=>?_⟩,show 1≤lim by decide⟩,hz _ _,hz _ _,hz _ _,hz _ _,⟨Nat.zero_le _,fun i hi=>absurd hi (Nat.not_lt_zero _)⟩,show 0≤lim by decide,show(0:Int)≤0∧(0:Int)≤4294967295 by decide⟩
 obtain rfl:i=0:=by
  have:i<1:=hi
  omega
 exact⟨g,0,.string ⟨#[97]⟩,rfl,by rw[(ai h).1];rfl,_,rfl,rfl,by decide⟩
theorem OX(f a b:Int):bF (qy f a b)=jD f a b:=by
 have h0:bF (qy 0 0 0)=true:=by decide +kernel
 simp only[bF,jk,jT,qy,ed,Bool.and_eq_true]at h0
 simp only[bF,jk,jT,qy,ed,jD,h0,Bool.true_and]
 rfl
theorem aki{e q:Sl}{D D':Db}(h1:D.entries.length=D'.entries.length)(h2:D.aG=D'.aG)(h3:D.ay=D'.ay)(h4:D.ax=D'.ax):aj e q D=aj e q D':=by
 unfold aj
 rw[h1,h2,h3,h4]
theorem akj(x:EE)(f a b:Int):(((bC x).setIfInBounds 11 (.int .i64 f)).setIfInBounds 12 (.int .i64 a)).setIfInBounds 13 (.int .i64 b)=bC (x.1,touched x.2 f a b):=by
 rcases x with⟨r,d⟩
 kernel_rfl
theorem akk{cur:Array Value}{X:List EE}(i0:Nat)(hi0:i0<X.length)(f a b:Int)(h:∀i (hi:i<X.length),eQ cur (i*17) 17=some (bC X[i])) :
  ∀i (hi:i<(X.set i0 (X[i0].1,touched X[i0].2 f a b)).length),eQ (((cur.setIfInBounds (i0*17+11) (.int .i64 f)).setIfInBounds (i0*17+12) (.int .i64 a)).setIfInBounds (i0*17+13) (.int .i64 b)) (i*17) 17=some (bC ((X.set i0 (X[i0].1,touched X[i0].2 f a b))[i])):=by
 intro i hi
 have hi':i<X.length:=by simpa using hi
 rw[List.getElem_set]
 by_cases e:i0=i
 ·subst e
  rw[if_pos rfl,←akj]
  exact OU (OU (OU (h i0 hi0) (by omega)) (by omega)) (by omega)
 ·rw[if_neg e,OV (by omega),OV (by omega),OV (by omega)]
  exact h i hi'
end Go.WW
namespace Go.Proofs.YtaghcadlgbnbdaaGreatDoor
open Go.RowKit Go.WW
theorem akl(e q:Sl)(D:Db)(t:Sl)(pn:aB)(w:World)(hq:bg w t pn)(hE:iZ w e.a D.entries)(hi:idxOf (fun z=>bn z.name pn) D.entries=-1):Calls Tryz.prog 36 #[.agg (aj e q D),.agg (ak t pn)] w fun x w'=>x=.returned (.tuple #[.agg (aj e q D),.int .i64 9])∧Below w.heap.size w w':=by
 obtain⟨W,bZ,hB,hx2,hx3,hz,hW⟩:=rV e q D (ak t pn) 25 w
 replace bZ:=Lib.hid bZ
 go_enter Tryz.func36,Tryz.ntmps36
 go_wp2_with fail
 rw[bZ.out];clear bZ
 refine(Ew _ _ _ _ _ _ (hE.later hB) (hq.later hB)).mono ?_
 rintro x w1 ⟨rfl,hb1⟩
 rw[hi]
 have hs1:=hb1.size
 obtain⟨hc,hf,hr,hlt⟩:=ai (aA hb1 hx2)
 obtain⟨hc3,hf3,hr3,hlt3⟩:=ai (aA hb1 hx3)
 dsimp only
 have hlt4:w.heap.size+1+1<w1.heap.size:=by have:=hb1.size;omega
 have hz1:=(gY hb1 (w.heap.size+1+1) 0 4 (by omega)).trans hz
 have hne:w.heap.size+1+1≠w.heap.size:=by omega
 go_wp2_with fail
 have hrow:=iV (w:=w1) (iT e q D) hz1
 exact bodyPost_ret (kX (by rfl) Tryz.underlying44 rfl (by kernel_rfl) rfl hrow) rfl ⟨rfl,Go.WW.Below.putRow (ag hB hb1) (by omega)⟩
theorem akm(e q:Sl)(D:Db)(t:Sl)(pn:aB)(w:World)(hq:bg w t pn)(X:List EE)(hX:fB w e.a X)(hm:∀x∈X,bz w x.1 x.2)(hD:D.entries=X.map (·.2))(i0:Nat)(hi0:i0<X.length)(hat:idxOf (fun z=>bn z.name pn) D.entries=(i0:Int))(hs0:0≤D.ay)(hs1:D.ay<1000000):Calls Tryz.prog 36 #[.agg (aj e q D),.agg (ak t pn)] w (Ja q D (X.eraseIdx i0) w):=by
 have hlen:D.entries.length=X.length:=by rw[hD];simp
 have hE:iZ w e.a D.entries:=by rw[hD];exact hX.dR hm
 clear hD
 obtain⟨W,bZ,hB,hx2,hx3,hz,hW⟩:=rV e q D (ak t pn) 25 w
 replace bZ:=Lib.hid bZ
 go_enter Tryz.func36,Tryz.ntmps36
 go_wp2_with fail
 rw[bZ.out];clear bZ
 refine(Ew _ _ _ _ _ _ (hE.later hB) (hq.later hB)).mono ?_
 rintro x w1 ⟨rfl,hb1⟩
 rw[hat]
 have hs1':=hb1.size
 have hB1:=ag hB hb1
 obtain⟨hc,hf,hr,hlt⟩:=ai (aA hb1 hx2)
 obtain⟨hc3,hf3,hr3,hlt3⟩:=ai (aA hb1 hx3)
 have I9:(D.ay+1).tmod 4611686018427387904=D.ay+1:=Int.tmod_eq_of_lt (by omega) (by omega)
 have hne1:w.heap.size+1≠w.heap.size:=by omega
 have hne2:w.heap.size+1+1≠w.heap.size:=by omega
 have Jb:¬(i0:Int)<0:=by omega
 have hcon:=WY e.a e.cap X i0 w1 (hX.later hB1) hi0
 dsimp only
 go_wp2_with fail
 refine hcon.mono ?_
 rintro x w5 ⟨s5,rfl,hb5,hd5⟩
 have nC:=ag hb1 hb5
 clear hc hf hr hlt hc3 hf3 hr3 hlt3
 generalize hX5:X.eraseIdx i0=X5 at *
 have hy2:=aA nC hx2
 have hs5:=hb5.size
 obtain⟨hc,hf,hr,hlt⟩:=ai hy2
 have hset:=cZ (o:=1) (.int .i64 (D.ay+1)) (cZ (o:=2) (.slice s5.a X5.length s5.cap) hy2)
 have EM:row? ((w5.setCell ⟨w.heap.size,2,none⟩ (.slice s5.a X5.length s5.cap)).setCell ⟨w.heap.size,1,none⟩ (.int .i64 (D.ay+1))) w.heap.size 0 4=some (aj s5 q {D with entries:=X5.map (·.2),ay:=D.ay+1}):=(bV hset).trans (by rw[show X5.length=(X5.map (·.2)).length from(List.length_map _).symm];kernel_rfl)
 have hcp:aJ ((w5.setCell ⟨w.heap.size,2,none⟩ (.slice s5.a X5.length s5.cap)).setCell ⟨w.heap.size,1,none⟩ (.int .i64 (D.ay+1))) (w.heap.size+1+1) 0 4=true:=(kW hne2).trans ((kW hne2).trans ((gY nC (w.heap.size+1+1) 0 4 (by omega)).trans hz))
 clear hr
 dsimp only
 go_wp2_with fail
 have hrow:=iV (iT s5 q {D with entries:=X5.map (·.2),ay:=D.ay+1}) hcp
 refine bodyPost_ret (kX (by rfl) Tryz.underlying44 rfl (by kernel_rfl) rfl hrow) rfl ⟨s5,rfl,Go.WW.Below.putRow (((ag hB nC).setCell (by simp) _).setCell (by simp) _) (by omega),fun y hy=>hd5 _ (fun g hg=>?_)⟩
 have hg1:=hg.1
 have hg2:=hg.2
 rw[hy g ⟨by omega,by rw[jS];simp only[World.setCell,Array.size_modify];omega⟩,jh (by omega),Below.heap_setCell _ _ _ _ (show g≠w.heap.size by omega),Below.heap_setCell _ _ _ _ (show g≠w.heap.size by omega)]
theorem akn(ρ:Operand→Value)(dst:Option Tmp)(a0 a1 a2 a3:Operand)(ty:TypeId)(pos:String)(after:Array Edge)(guard:Option (Nat×Bool)) :
  execOp ρ {dst,op:=.build 32 #[(0,a0),(10,a1),(11,a2),(12,a3)],type:=ty,pos,after,guard}=mW 32 #[(0,ρ a0),(10,ρ a1),(11,ρ a2),(12,ρ a3)]:=by simp[execOp,mW]
theorem ako(g:Nat)(f a b:Int)(w:World):(mW 32 #[(0,.agg #[.slice (some ⟨g,0,none⟩) 1 1,.string ⟨#[82]⟩]),(10,.int .i64 f),(11,.int .i64 a),(12,.int .i64 b)]).run Tryz.prog w=.ok (.value (.agg (ae (xQ g) (qy f a b)))) w:=by kernel_rfl
attribute [go_sem] ako
attribute [go_sem ↓] akn
theorem akp(e q:Sl)(D:Db)(t:Sl)(pn:aB)(w:World)(_hq:bg w t pn)(f la su:Int)(hv:jD f la su=false):Calls Tryz.prog 38 #[.agg (aj e q D),.agg (ak t pn),.int .i64 f,.int .i64 la,.int .i64 su] w fun x w'=>x=.returned (.tuple #[.agg (aj e q D),.int .i64 2])∧Below w.heap.size w w':=by
 obtain⟨W,bZ,hB,hx2,hx3,hz,hW⟩:=rV e q D (ak t pn) 25 w
 replace bZ:=Lib.hid bZ
 go_enter Tryz.func38,Tryz.ntmps38
 go_wp2_with fail
 rw[bZ.out];clear bZ
 have hp1:=lS W (.cells #[Value.string ⟨#[97]⟩] 9) (.cells (ae (xQ (w.heap.size+1+1+1)) (qy f la su)) 32)
 rw[hW]at hp1
 have kM:Below W.heap.size W ((W.alloc (.cells #[Value.string ⟨#[97]⟩] 9)).alloc (.cells (ae (xQ (w.heap.size+1+1+1)) (qy f la su)) 32)):=aC (aC (Below.refl _ W) _) _
 refine(zo _ _ _ (OW hp1 f la su) false ((OX f la su).trans hv)).mono ?_
 rintro x w0 ⟨rfl,hb0⟩
 have hb1:=ag kM hb0
 clear hb0 kM hp1
 have hs1':=hb1.size
 obtain⟨hc,hf,hr,hlt⟩:=ai (aA hb1 hx2)
 obtain⟨hc3,hf3,hr3,hlt3⟩:=ai (aA hb1 hx3)
 dsimp only
 have hlt4:w.heap.size+1+1<w0.heap.size:=by have:=hb1.size;omega
 have hz1:=(gY hb1 (w.heap.size+1+1) 0 4 (by omega)).trans hz
 have hne:w.heap.size+1+1≠w.heap.size:=by omega
 go_wp2_with fail
 have hrow:=iV (w:=w0) (iT e q D) hz1
 exact bodyPost_ret (kX (by rfl) Tryz.underlying44 rfl (by kernel_rfl) rfl hrow) rfl ⟨rfl,Go.WW.Below.putRow (ag hB hb1) (by omega)⟩
theorem akq(e q:Sl)(D:Db)(t:Sl)(pn:aB)(w:World)(hq:bg w t pn)(f la su:Int)(hv:jD f la su=true)(hE:iZ w e.a D.entries)(hi:idxOf (fun z=>bn z.name pn) D.entries=-1):Calls Tryz.prog 38 #[.agg (aj e q D),.agg (ak t pn),.int .i64 f,.int .i64 la,.int .i64 su] w fun x w'=>x=.returned (.tuple #[.agg (aj e q D),.int .i64 9])∧Below w.heap.size w w':=by
 obtain⟨W,bZ,hB,hx2,hx3,hz,hW⟩:=rV e q D (ak t pn) 25 w
 replace bZ:=Lib.hid bZ
 go_enter Tryz.func38,Tryz.ntmps38
 go_wp2_with fail
 rw[bZ.out];clear bZ
 have hp1:=lS W (.cells #[Value.string ⟨#[97]⟩] 9) (.cells (ae (xQ (w.heap.size+1+1+1)) (qy f la su)) 32)
 rw[hW]at hp1
 have kM:Below W.heap.size W ((W.alloc (.cells #[Value.string ⟨#[97]⟩] 9)).alloc (.cells (ae (xQ (w.heap.size+1+1+1)) (qy f la su)) 32)):=aC (aC (Below.refl _ W) _) _
 refine(zo _ _ _ (OW hp1 f la su) true ((OX f la su).trans hv)).mono ?_
 rintro x w0 ⟨rfl,hb0⟩
 have hb1:=ag kM hb0
 clear hb0 kM hp1
 have hs1':=hb1.size
 obtain⟨hc,hf,hr,hlt⟩:=ai (aA hb1 hx2)
 obtain⟨hc3,hf3,hr3,hlt3⟩:=ai (aA hb1 hx3)
 dsimp only
 go_wp2_with fail
 refine(Ew _ _ _ _ _ _ (hE.later (ag hB hb1)) (hq.later (ag hB hb1))).mono ?_
 rintro x w2 ⟨rfl,hb2⟩
 rw[hi]
 have ik:=ag hb1 hb2
 clear hc hf hr hlt hc3 hf3 hr3 hlt3
 obtain⟨hc,hf,hr,hlt⟩:=ai (aA ik hx2)
 obtain⟨hc3,hf3,hr3,hlt3⟩:=ai (aA ik hx3)
 dsimp only
 have hlt4:w.heap.size+1+1<w2.heap.size:=by have:=ik.size;omega
 have hz1:=(gY ik (w.heap.size+1+1) 0 4 (by omega)).trans hz
 have hne:w.heap.size+1+1≠w.heap.size:=by omega
 go_wp2_with fail
 have hrow:=iV (w:=w2) (iT e q D) hz1
 exact bodyPost_ret (kX (by rfl) Tryz.underlying44 rfl (by kernel_rfl) rfl hrow) rfl ⟨rfl,Go.WW.Below.putRow (ag hB ik) (by omega)⟩
theorem akr(e q:Sl)(D:Db)(t:Sl)(pn:aB)(w:World)(hq:bg w t pn)(f la su:Int)(hv:jD f la su=true)(X:List EE)(hX:fB w e.a X)(hm:∀x∈X,bz w x.1 x.2)(hD:D.entries=X.map (·.2))(i0:Nat)(hi0:i0<X.length)(hat:idxOf (fun z=>bn z.name pn) D.entries=(i0:Int))(hs0:0≤D.ay)(hs1:D.ay<1000000)(X':List EE)(hX0:X'=X.set i0 (X[i0].1,touched X[i0].2 f la su)):Calls Tryz.prog 38 #[.agg (aj e q D),.agg (ak t pn),.int .i64 f,.int .i64 la,.int .i64 su] w (Ja q D X' w):=by
 have HX0:=Lib.hid hX0
 clear hX0
 have hlen:D.entries.length=X.length:=by rw[hD];simp
 have hE:iZ w e.a D.entries:=by rw[hD];exact hX.dR hm
 clear hD
 obtain⟨W,bZ,hB,hx2,hx3,hz,hW⟩:=rV e q D (ak t pn) 25 w
 replace bZ:=Lib.hid bZ
 go_enter Tryz.func38,Tryz.ntmps38
 go_wp2_with fail
 rw[bZ.out];clear bZ
 have hp1:=lS W (.cells #[Value.string ⟨#[97]⟩] 9) (.cells (ae (xQ (w.heap.size+1+1+1)) (qy f la su)) 32)
 rw[hW]at hp1
 have kM:Below W.heap.size W ((W.alloc (.cells #[Value.string ⟨#[97]⟩] 9)).alloc (.cells (ae (xQ (w.heap.size+1+1+1)) (qy f la su)) 32)):=aC (aC (Below.refl _ W) _) _
 refine(zo _ _ _ (OW hp1 f la su) true ((OX f la su).trans hv)).mono ?_
 rintro x w0 ⟨rfl,hb0⟩
 have hb1:=ag kM hb0
 clear hb0 kM hp1
 have hs1':=hb1.size
 obtain⟨hc,hf,hr,hlt⟩:=ai (aA hb1 hx2)
 obtain⟨hc3,hf3,hr3,hlt3⟩:=ai (aA hb1 hx3)
 dsimp only
 go_wp2_with fail
 refine(Ew _ _ _ _ _ _ (hE.later (ag hB hb1)) (hq.later (ag hB hb1))).mono ?_
 rintro x w2 ⟨rfl,hb2⟩
 rw[hat]
 have ik:=ag hb1 hb2
 clear hc hf hr hlt hc3 hf3 hr3 hlt3
 obtain⟨hc,hf,hr,hlt⟩:=ai (aA ik hx2)
 obtain⟨hc3,hf3,hr3,hlt3⟩:=ai (aA ik hx3)
 have I9:(D.ay+1).tmod 4611686018427387904=D.ay+1:=Int.tmod_eq_of_lt (by omega) (by omega)
 have hne1:w.heap.size+1≠w.heap.size:=by omega
 have hne2:w.heap.size+1+1≠w.heap.size:=by omega
 have Jb:¬(i0:Int)<0:=by omega
 have arG:(i0:Int)<(X.length:Int):=by omega
 have IE:X.length≤4294967000:=hX.1
 have hsrc:=(hX.later (ag (ag hB ik) ((Below.refl _ w2).alloc (Nat.le_refl _) (.cells #[] 32)))).src
 have hown:=Own.empty w2 32 17
 have hs2':=ik.size
 dsimp only
 go_wp2_with (at_builtin;refine gK rfl (.tmp 30) (.tmp 32) _ rfl vM (n:=0) (s:=⟨some ⟨w2.heap.size,0,none⟩,0⟩) rfl rfl hown rfl (by rw[List.length_map]) hsrc (by simp;omega) (by simp) ?_;intro s3 w3 hown3 hg3 fQ;have hb3:Below W.heap.size W w3:=(ik.alloc ik.size (.cells #[] 32)).grown hg3 (by simp;omega) (fun k e'=>by cases e';exact hs2');obtain⟨hc5,hf5,zD,aks⟩:=ai (aA hb3 hx2))
 obtain⟨g,cur,uJ,hgb,hh3,akt,hsz3,OY⟩:=hown3.cur (by simp;omega)
 obtain⟨s3a,uK⟩:=s3
 dsimp only at uJ
 subst uJ
 dsimp only
 simp only[List.nil_append,List.length_map]at hsz3 OY akt
 have hgw:g≠w.heap.size:=by omega
 have hgz:g≠w.heap.size+1+1:=by omega
 obtain⟨V,hV⟩:∃V,V=w3.setCell ⟨w.heap.size,2,none⟩ (.slice (some ⟨g,0,none⟩) X.length uK):=⟨_,rfl⟩
 have Yu:V.heap[g]?=some (.cells cur 32):=by rw[hV];exact(Below.heap_setCell _ _ _ _ hgw).trans hh3
 have OZ:V.heap[w.heap.size]?=some (.cells ((aj e q D).setIfInBounds 2 (.slice (some ⟨g,0,none⟩) X.length uK)) 44):=by rw[hV];exact cZ (o:=2) _ (aA hb3 hx2)
 have hVz:aJ V (w.heap.size+1+1) 0 4=true:=by rw[hV];exact(kW hne2).trans ((gY hb3 (w.heap.size+1+1) 0 4 (by omega)).trans hz)
 have iE:Below w.heap.size w V:=by rw[hV];exact(ag hB hb3).setCell (by simp) _
 have Oo:w.heap.size+1+1<V.heap.size:=by rw[hV];simp only[World.setCell,Array.size_modify];have:=hb3.size;omega
 have hwl:w.heap.size<V.heap.size:=Nat.lt_of_succ_lt (Nat.lt_of_succ_lt Oo)
 have Yv:w.heap.size≤g:=by omega
 have hw2:w.heap.size≤w.heap.size+1+1:=by omega
 rw[show(aj e q D).setIfInBounds 2 (.slice (some ⟨g,0,none⟩) X.length uK)=aj ⟨some ⟨g,0,none⟩,uK⟩ q {D with entries:=X.map (·.2)} by rw[←WR e q D ⟨some ⟨g,0,none⟩,uK⟩ (X.map (·.2)),List.length_map]]at OZ
 have hrow:=OY i0 hi0
 rw[List.getElem_map]at hrow
 have hcell:∀j,j<17→cur[i0*17+j]?=(bC X[i0])[j]?:=fun j hj=>by
  have:=akg hrow j hj
  exact this
 have h11:=(hcell 11 (by omega)).trans (Tv _ _)
 have h12:=(hcell 12 (by omega)).trans (Tz _ _)
 have h13:=(hcell 13 (by omega)).trans (TA _ _)
 rw[←hV]
 clear hV hc5 hf5 zD aks hc hf hr hlt hc3 hf3 hr3 hlt3
 obtain⟨hc,hf,hr,hlt⟩:=ai OZ
 obtain⟨hcg,hfg,hrg,Yw⟩:=ai Yu
 have nb:¬one g w.heap.size:=aT (Ne.symm hgw)
 refine oP (one g) (But.refl _ V) (by kernel_rfl) (by kernel_rfl) ?_
 iterate 14 (refine aN (by kernel_rfl) (by kernel_rfl) (fun K hK=>?_);go_big_quiet_op;refine hK _ ?_;clear hK K)
 refine aS (by rfl) (by rfl) (fun K hK=>?_)
 go_wp2_with fail
 refine hK _ _ (bI ((BF V g (i0*17+11) (.int .i64 f)).drew)) ?_
 clear hK K
 iterate 2 (refine aN (by kernel_rfl) (by kernel_rfl) (fun K hK=>?_);go_big_quiet_op;refine hK _ ?_;clear hK K)
 refine aS (by rfl) (by rfl) (fun K hK=>?_)
 go_wp2_with fail
 refine hK _ _ (bI ((BF V g (i0*17+11) (.int .i64 f)).trans (BF _ g (i0*17+12) (.int .i64 la))).drew) ?_
 clear hK K
 have akv:But (one g) V ((V.setCell ⟨g,i0*17+11,none⟩ (.int .i64 f)).setCell ⟨g,i0*17+12,none⟩ (.int .i64 la)).drew:=((BF V g (i0*17+11) (.int .i64 f)).trans (BF _ g (i0*17+12) (.int .i64 la))).drew
 have Yx:=akh Yu (i0*17+11) (i0*17+12) (.int .i64 f) (.int .i64 la)
 have arI:((cur.setIfInBounds (i0*17+11) (.int .i64 f)).setIfInBounds (i0*17+12) (.int .i64 la))[i0*17+13]?=some (.int .i64 X[i0].2.jw):=by
  rw[Array.getElem?_setIfInBounds,if_neg (by omega),Array.getElem?_setIfInBounds,if_neg (by omega)]
  exact h13
 generalize ((V.setCell ⟨g,i0*17+11,none⟩ (.int .i64 f)).setCell ⟨g,i0*17+12,none⟩ (.int .i64 la)).drew=V2 at *
 clear hcg hfg hrg Yw h11 h12 h13
 obtain⟨hcg,hfg,hrg,Yw⟩:=ai Yx
 iterate 2 (refine aN (by kernel_rfl) (by kernel_rfl) (fun K hK=>?_);go_big_quiet_op;refine hK _ ?_;clear hK K)
 refine aS (by rfl) (by rfl) (fun K hK=>?_)
 go_wp2_with fail
 have fA:=akv.trans (BF V2 g (i0*17+13) (.int .i64 su))
 have hUg:=cZ (o:=i0*17+13) (.int .i64 su) Yx
 refine hK _ _ (bI fA) ?_
 clear hK K
 refine bW ?_
 generalize V2.setCell ⟨g,i0*17+13,none⟩ (.int .i64 su)=U at *
 have hX':=HX0.out
 have O0:X'.length=X.length:=by rw[hX',List.length_set]
 have jC:=(fA.block _ hwl nb).trans OZ
 have hUz:aJ U (w.heap.size+1+1) 0 4=true:=(tJ (fA.block _ Oo (aT (Ne.symm hgz))) 0 4).trans hVz
 have Xc:=fA.size
 have hBU:Below w.heap.size w U:=((But.of_below (S:=fun k=>w.heap.size≤k) iE).trans (fA.mono fun k (hk:k=g)=>hk▸Yv)).below (Nat.le_refl _) fun k hk=>hk
 obtain⟨hcU,hfU,-,arL⟩:=ai jC
 have hset:=cZ (o:=1) (.int .i64 (D.ay+1)) jC
 have EM:row? (U.setCell ⟨w.heap.size,1,none⟩ (.int .i64 (D.ay+1))) w.heap.size 0 4=some (aj ⟨some ⟨g,0,none⟩,uK⟩ q {D with entries:=X'.map (·.2),ay:=D.ay+1}):=(bV hset).trans (by rw[WQ,show aj ⟨some ⟨g,0,none⟩,uK⟩ q {D with entries:=X.map (·.2),ay:=D.ay+1}=aj ⟨some ⟨g,0,none⟩,uK⟩ q {D with entries:=X'.map (·.2),ay:=D.ay+1} from aki (by simp[O0]) rfl rfl rfl];exact aiO _ _ _)
 have hcp:aJ (U.setCell ⟨w.heap.size,1,none⟩ (.int .i64 (D.ay+1))) (w.heap.size+1+1) 0 4=true:=(kW hne2).trans hUz
 have hrx:=akk (cur:=cur) (X:=X) i0 hi0 f la su (fun i hi=>by have:=OY i hi;rwa[List.getElem_map]at this)
 have HRX:Hid (∀i (hi:i<X'.length),eQ (((cur.setIfInBounds (i0*17+11) (.int .i64 f)).setIfInBounds (i0*17+12) (.int .i64 la)).setIfInBounds (i0*17+13) (.int .i64 su)) (i*17) 17=some (bC X'[i])):=Lib.hid (by subst hX';exact hrx)
 have vY:=Lib.hid O0
 clear hrx hX' O0
 have Yy:=Lib.hid hUg
 have HBU:=Lib.hid fA
 go_wp2_with fail
 have hrow2:=iV (iT ⟨some ⟨g,0,none⟩,uK⟩ q {D with entries:=X'.map (·.2),ay:=D.ay+1}) hcp
 refine bodyPost_ret (kX (by rfl) Tryz.underlying44 rfl (by kernel_rfl) rfl hrow2) rfl ?_
 refine⟨⟨some ⟨g,0,none⟩,uK⟩,rfl,Go.WW.Below.putRow (hBU.setCell (Nat.le_refl _) _) hw2,fun y hy=>?_⟩
 have hgl:g<U.heap.size:=(Array.getElem?_eq_some_iff.1 Yy.out).1
 have hyg:y.heap[g]?=U.heap[g]?:=by
  rw[hy g ⟨Yv,by rw[jS];simp only[World.setCell,Array.size_modify];exact hgl⟩,jh hgz,Below.heap_setCell _ _ _ _ hgw]
 refine⟨by rw[vY.out];exact hX.1,fun i hi=>⟨g,0,bC X'[i],rfl,?_,_,List.getElem?_eq_getElem hi,rfl⟩⟩
 rw[Nat.zero_add,bV (hyg.trans Yy.out)]
 exact HRX.out i hi
end Go.Proofs.YtaghcadlgbnbdaaGreatDoor
namespace Go.WW
open Go.RowKit
section
variable {P:Program} {ops:Array Oper} {S:World→Prop} {st:Oper→Bool} {Q:Act→World→Prop}
theorem akz{m:Array (List Nat)}(hok:tV st ops m){Q':Exit→Act→World→Prop}{z:Oper}{N:Nat}(hN:ops.size=N+1)(hz:ops[N]?=some z)(hzg:z.guard=none)(O1:∀i,i<N→∃e∈z.after,Region.binds .any e=true∧e.on=i)
  (hQ:∀a w,Q a w→z.wp P a w (fun a' w'=>Q' .normal a' w') never) :
  ∀(n:Nat) (L:List Nat) (listed:Array Bool) (a:Act) (w:World),L.length=n→L.Pairwise (· < ·)→listed.size=ops.size→listed.getD N true=false→(∀j,j∈L↔j<N∧listed.getD j true=false)→
   (∀k o,ops[k]?=some o→listed.getD k false=true→∀e∈o.after,Region.binds .any e=true→listed.getD e.on false=true)→
   S w→aF P ops st S Q (L.filterMap (ops[·]?)) a w→wpAny P .any ops Q' (n+1) listed a w:=by
 intro n
 induction n with
 |zero=>
  intro L listed a w hn _ hsz zF hL hdown _ h
  have:L=[]:=List.eq_nil_of_length_eq_zero hn
  subst this
  have hls:∀i,i<N→listed.getD i false=true:=fun i hi=>by
   have h2:listed.getD i true≠false:=fun hf=>by have:=(hL i).2 ⟨hi,hf⟩;cases this
   have hes:i<listed.size:=by omega
   simp[hes]at h2 ⊢;exact h2
  refine⟨fun hr=>?_,fun i hi=>?_⟩
  ·have:N∈Region.ready .any ops listed:=mem_ready.2 ⟨zF,z,hz,fun e he hb=>hls _ (by have:=hok.back N z hz e he hb;exact this)⟩
   rw[hr]at this;cases this
  ·obtain⟨h0,o,ho,_⟩:=mem_ready.1 hi
   have his:i<ops.size:=(Array.getElem?_eq_some_iff.1 ho).1
   have hiN:i=N:=Classical.byContradiction fun hne=>by
    have:=(hL i).2 ⟨by omega,h0⟩;cases this
   subst hiN
   rw[hz]at ho;cases ho
   have hend:∀a' w',Q' .normal a' w'→wpAny P .any ops Q' 0 (listed.setIfInBounds i true) a' w':=fun a' w' hq=>by
    refine⟨?_,hq⟩
    cases hr:Region.ready .any ops (listed.setIfInBounds i true)with
    |nil=>rfl
    |cons k r=>
     have hk:k∈Region.ready .any ops (listed.setIfInBounds i true):=by rw[hr];simp
     obtain⟨h1,o',ho',_⟩:=mem_ready.1 hk
     have hks:k<ops.size:=(Array.getElem?_eq_some_iff.1 ho').1
     exfalso
     by_cases hki:k=i
     ·subst hki
      have:k<listed.size:=by omega
      simp[this]at h1
     ·rw[getD_set_ne true (Ne.symm hki)]at h1
      have:=(hL k).2 ⟨by omega,h1⟩;cases this
   unfold wpOp
   simp only[hz,Region.wanted,hzg,if_true]
   exact .inl (tK (Oper.wp_mono (fun a' w' hh=>hend a' w' hh) (hQ _ _ h)))
 |succ n ih=>
  intro L listed a w hn hsort hsz zF hL hdown hS h
  refine⟨fun hr=>?_,fun i hi=>?_⟩
  ·exfalso
   cases L with
   |nil=>simp at hn
   |cons j L=>
    obtain⟨hj,hjl⟩:=(hL j).1 (by simp)
    have hj':j<ops.size:=by omega
    have hoj:ops[j]?=some ops[j]:=by simp[hj']
    have:j∈Region.ready .any ops listed:=by
     refine mem_ready.2 ⟨hjl,_,hoj,fun e he hb=>?_⟩
     have hlt:=hok.back j _ hoj e he hb
     have hnot:e.on∉j::L:=by
      intro hmem
      rcases List.mem_cons.1 hmem with h1|h1
      ·omega
      ·have:=(List.pairwise_cons.1 hsort).1 _ h1;omega
     have h2:listed.getD e.on true≠false:=fun hf=>hnot ((hL e.on).2 ⟨by omega,hf⟩)
     have hes:e.on<listed.size:=by omega
     simp[hes]at h2 ⊢;exact h2
    rw[hr]at this;cases this
  ·obtain⟨h0,o,ho,hall⟩:=mem_ready.1 hi
   have his:i<ops.size:=(Array.getElem?_eq_some_iff.1 ho).1
   have hiN:i≠N:=fun e=>by
    subst e
    rw[hz]at ho;cases ho
    cases L with
    |nil=>simp at hn
    |cons j L=>
     obtain⟨hj,hjl⟩:=(hL j).1 (by simp)
     obtain⟨e,he,hb,rfl⟩:=O1 j hj
     have:=hall e he hb
     rw[ve this]at hjl;cases hjl
   have hiL:i∈L:=(hL i).2 ⟨by omega,h0⟩
   obtain⟨L1,L2,rfl⟩:=List.append_of_mem hiL
   have dQ:=List.pairwise_append.1 hsort
   have hlt1:∀x∈L1,x<i:=fun x hx=>dQ.2.2 x hx i (by simp)
   have hgt2:∀x∈L2,i<x:=fun x hx=>(List.pairwise_cons.1 dQ.2.1).1 x hx
   rw[List.filterMap_append,List.filterMap_cons_some ho]at h
   have cO:=nN (P:=P) (ops:=ops) (S:=S) (st:=st) (Q:=Q) (Region.noSelect_spec hok.kU i o · · ho) (L1.filterMap (ops[·]?)) (fun x hx=>by
    obtain⟨k,hk,hox⟩:=List.mem_filterMap.1 hx
    have hkl:=((hL k).1 (by simp[hk])).2
    have hnl:¬listed.getD k false=true:=fun hf=>by rw[ve hf]at hkl;cases hkl
    refine⟨(Region.noSelect_spec hok.kU k x · · hox),?_⟩
    rcases hok.pair i o ho k (hlt1 k hk) x hox with⟨e,he,hb,rfl⟩|⟨hap,hor⟩
    ·exact absurd (hall e he hb) hnl
    ·refine⟨hap,?_⟩
     rcases hor with h1|h1|h1
     ·exact .inl h1
     ·exact .inr h1
     ·exact absurd (Au hok hdown i o ho hall k h1) hnl) a w hS h
   have hrest:∀a' w',S w'→aF P ops st S Q (L1.filterMap (ops[·]?)++L2.filterMap (ops[·]?)) a' w'→wpAny P .any ops Q' (n+1) (listed.setIfInBounds i true) a' w':=by
    intro a' w' hS' hh
    rw[←List.filterMap_append]at hh
    refine ih (L1++L2) (listed.setIfInBounds i true) a' w' ?_ ?_ (by simpa using hsz) (by rw[getD_set_ne true hiN];exact zF) ?_ ?_ hS' hh
    ·simp at hn ⊢;omega
    ·exact List.pairwise_append.2 ⟨dQ.1,(List.pairwise_cons.1 dQ.2.1).2,fun x hx y hy=>dQ.2.2 x hx y (by simp[hy])⟩
    ·intro j
     by_cases hji:j=i
     ·subst hji
      constructor
      ·intro hm
       exfalso
       rcases List.mem_append.1 hm with h1|h1
       ·have:=hlt1 _ h1;omega
       ·have:=hgt2 _ h1;omega
      ·rintro⟨_,hf⟩
       have:j<listed.size:=by omega
       simp[this]at hf
     ·rw[getD_set_ne true (Ne.symm hji),←hL j]
      simp[hji]
    ·intro k ok hk hkl e he hb
     by_cases hki:k=i
     ·subst hki
      rw[ho]at hk;cases hk
      exact getD_set_true (hall e he hb)
     ·rw[getD_set_ne false (Ne.symm hki)]at hkl
      exact getD_set_true (hdown k ok hk hkl e he hb)
   unfold wpOp
   simp only[ho]
   rw[bu]at cO
   split
   ·rename_i hw
    rw[if_pos hw]at cO
    refine .inl ?_
    by_cases hs:st o=true
    ·rw[if_pos hs]at cO
     obtain⟨v,hv,hh⟩:=cO
     unfold Oper.wp
     rw[hv w hS]
     exact hrest _ _ hS hh
    ·rw[if_neg hs]at cO
     exact tK (Oper.wp_mono (fun a' w' hh=>hrest a' w' hh.1 hh.2) cO)
   ·rename_i hw
    rw[if_neg hw]at cO
    exact hrest _ _ hS cO
end
def lastB(ops:List Oper):Bool:=
 match ops.getLast? with
 |some z=>z.guard.isNone&&(List.range (ops.length-1)).all fun i=>z.after.toList.any fun e=>Region.binds .any e&&e.on == i
 |none=>false
def vZ(P:Program)(ops:List Oper)(Q:Act→World→Prop)(a:Act)(w:World):Prop:=
 match ops.getLast? with
 |some z=>z.wp P a w Q never
 |none=>False
theorem akA{P:Program}{id:Nat}{Q':Exit→Act→World→Prop}{a:Act}{w:World}{l:List Oper}(S:World→Prop)(st:Oper→Bool)(hm:P.follows .mixedOrders=true)(hB:lJ st l.toArray=true)(hZ:lastB l=true)
  (hS:S w.drew) (h:aF P l.toArray st S (vZ P l fun a' w'=>Q' .normal a' w') l.dropLast a w.drew):(Code.region id l.toArray true).wp P Q' a w:=by
 refine wp_region_any hm ?_
 unfold lastB at hZ
 cases hg:l.getLast? with
 |none=>rw[hg]at hZ;cases hZ
 |some z=>
  rw[hg]at hZ
  simp only[Bool.and_eq_true,List.all_eq_true,List.mem_range]at hZ
  obtain⟨hz1,hz2⟩:=hZ
  have hne:l≠[]:=fun e=>by rw[e]at hg;cases hg
  have hlen:l.length=l.length-1+1:=by have:=List.length_pos_iff.2 hne;omega
  have hzi:l.toArray[l.length-1]?=some z:=by
   rw[List.getLast?_eq_getElem?]at hg;simpa using hg
  have hfm:(List.range (l.length-1)).filterMap (l.toArray[·]?)=l.dropLast:=by
   rw[List.dropLast_eq_take]
   have:∀n,(List.range n).filterMap (fun i=>l.toArray[i]?)=l.take n:=by
    intro n
    induction n with
    |zero=>simp
    |succ n ih=>
     rw[List.range_succ,List.filterMap_append,ih]
     by_cases hn:n<l.length
     ·rw[List.take_succ_eq_append_getElem hn];simp[hn]
     ·simp[hn,List.take_of_length_le (show l.length≤n by omega),List.take_of_length_le (show l.length≤n+1 by omega)]
   exact this _
  have:=akz (P:=P) (S:=S) (Q:=vZ P l fun a' w'=>Q' .normal a' w') (Ar hB) (Q':=Q') (z:=z) (N:=l.length-1) (by simpa using hlen) hzi (by simpa using hz1) (fun i hi=>by
    have:=hz2 i hi
    simp only[List.any_eq_true,Bool.and_eq_true,beq_iff_eq]at this
    obtain⟨e,he,hb⟩:=this
    exact⟨e,by simpa using he,hb⟩) (fun a' w' hq=>by unfold vZ at hq;rw[hg]at hq;exact hq) (l.length-1) (List.range (l.length-1)) (Array.replicate l.toArray.size false) a w.drew
   (by simp) List.pairwise_lt_range (by simp) (by
     have:l.length-1<l.length:=by omega
     simp[this]) (by intro j;simp;intro h1;simp[show j<l.length by omega]) (by intro k o hk hkl;exfalso;rw[Array.getD_eq_getD_getElem?,Array.getElem?_replicate]at hkl;split at hkl<;>simp at hkl) hS (by rw[hfm];exact h)
  rw[←hlen]at this
  simpa using this
end Go.WW
namespace Go.WW
open Go.RowKit
theorem zG{P:Program}{o:Oper}{a:Act}{w:World}{K:Act→World→Prop}{Q:Exit→Act→World→Prop}(x y:Operand)(t:TypeId)(ho:o.op=.call {callee:=.builtin .append,args:=#[x,y],argTypes:=#[t,t]})
  {e:TypeId} {k bytes:Nat} (he:gJ P t e k bytes) {base:Nat} {s:Sl} {n:Nat} {rows:List (Array Value)} (hx:a.eval x=.slice s.a n s.cap) (hn:n=rows.length) (h:Own w base e k s rows) {A:Option Addr} {news:List (Array Value)} {m c:Nat}
  (hy:a.eval y=.slice A m c) (hm:m=news.length) (hs:bJ w k A news) (hlen:(rows.length+news.length)*(bytes+1)≤140737488355328) (hbase:base≤w.heap.size)
  (hK:∀(s':Sl) w',Own w' base e k s' (rows++news)→w.grownBy w' s.blk→(s'.blk=s.blk∨s'.blk=some w.heap.size)→K (a.put o.dst (.slice s'.a (n+m) s'.cap)) w'):o.wp P a w K Q:=by
 subst hn hm
 exact LM x y t ho he hx h hy rfl hs hlen hbase hK
theorem fG.src{w:World}{a:Option Addr}{L:List ah}(h:fG w a L):bJ w 10 a (L.map az):=
 ⟨fun r hr=>by obtain⟨x,_,rfl⟩:=List.mem_map.1 hr;exact wY _,fun r hr=>by obtain⟨x,_,rfl⟩:=List.mem_map.1 hr;exact TB _,fun i hi=>by
  obtain⟨b,o,ha,hr,-⟩:=fG.get h i (by simpa using hi)
  exact⟨b,o,ha,by rw[hr,List.getElem_map]⟩⟩
theorem bJ.take{w:World}{k:Nat}{A:Option Addr}{rows:List (Array Value)}(h:bJ w k A rows)(n:Nat):bJ w k A (rows.take n):=
 ⟨fun r hr=>h.size r (List.mem_of_mem_take hr),fun r hr=>h.one r (List.mem_of_mem_take hr),fun i hi=>by
  have hi':i<rows.length:=by simp at hi;omega
  obtain⟨b,o,ha,hr⟩:=h.at_ i hi'
  exact⟨b,o,ha,by rw[hr,List.getElem_take]⟩⟩
theorem bJ.drop{w:World}{k b o:Nat}{rows:List (Array Value)}(h:bJ w k (some ⟨b,o,none⟩) rows)(n:Nat):bJ w k (some ⟨b,o+n*k,none⟩) (rows.drop n):=
 ⟨fun r hr=>h.size r (List.mem_of_mem_drop hr),fun r hr=>h.one r (List.mem_of_mem_drop hr),fun i hi=>by
  have hi':n+i<rows.length:=by simp at hi;omega
  obtain⟨b',o',ha,hr⟩:=h.at_ (n+i) hi'
  cases ha
  exact⟨b,o+n*k,rfl,by rw[Nat.add_assoc,←Nat.add_mul,hr,List.getElem_drop]⟩⟩
theorem bJ.tail{w:World}{a:Option Addr}{pb po:Nat}{rows:List (Array Value)}(h:bJ w 10 a rows)(ha:a=some ⟨pb,po,none⟩)(cap n:Nat)(hc:rows.length≤cap):bJ w 10 (if cap=n then a else Option.map (fun x=>x.add (n*10)) a) (rows.drop n):=by
 subst ha
 by_cases e:cap=n
 ·rw[List.drop_of_length_le (by omega)]
  exact⟨by simp,by simp,fun i hi=>absurd hi (Nat.not_lt_zero _)⟩
 ·rw[if_neg e]
  have hadd:(⟨pb,po,none⟩:Addr).add (n*10)=⟨pb,po+n*10,none⟩:=by unfold Addr.add;split<;>simp_all
  rw[Option.map_some,hadd]
  exact h.drop n
theorem iZ.aK{w:World}{b o:Nat}{l:List Entry}(x:iZ w (some ⟨b,o,none⟩) l)(i:Nat)(h:i<l.length):w.cell? ⟨b,o+i*17+6,none⟩=some (.string l[i].aK):=by
 obtain⟨r,hr,-⟩:=iZ.at x i h
 have:=gp hr 6 (by omega)
 rw[LG]at this
 exact this
end Go.WW
namespace Go.Proofs.YtaghcadlgbnbdaaGreatDoor
open Go.RowKit Go.WW
theorem akB(e q:Sl)(D:Db)(k:ByteArray)(w:World)(hp:fG w q.a D.ax)(hi:idxOf (fun z=>decide (z.name=k)) D.ax=-1):Calls Tryz.prog 40 #[.agg (aj e q D),.string k] w fun x w'=>x=.returned (.tuple #[.agg (aj e q D),.int .i64 9])∧Below w.heap.size w w':=by
 have hB:Below w.heap.size w ((w.alloc (.cells (aj e q D) 44)).alloc (.cells #[.string ⟨#[]⟩,.int .i64 0,.slice none 0 0,.slice none 0 0] 44)):=((Below.refl _ _).alloc (Nat.le_refl _) _).alloc (by simp) _
 have hx2:((w.alloc (.cells (aj e q D) 44)).alloc (.cells #[.string ⟨#[]⟩,.int .i64 0,.slice none 0 0,.slice none 0 0] 44)).heap[w.heap.size]?=some (.cells (aj e q D) 44):=lS w _ _
 have hz:aJ ((w.alloc (.cells (aj e q D) 44)).alloc (.cells #[.string ⟨#[]⟩,.int .i64 0,.slice none 0 0,.slice none 0 0] 44)) (w.heap.size+1) 0 4=true:=by simp[go_sem]
 have hW:((w.alloc (.cells (aj e q D) 44)).alloc (.cells #[.string ⟨#[]⟩,.int .i64 0,.slice none 0 0,.slice none 0 0] 44)).heap.size=w.heap.size+1+1:=by simp
 go_enter Tryz.func40,Tryz.ntmps40
 go_wp2_with fail
 generalize ((w.alloc (.cells (aj e q D) 44)).alloc (.cells #[.string ⟨#[]⟩,.int .i64 0,.slice none 0 0,.slice none 0 0] 44))=W at *
 refine(Bj _ _ _ _ _ (hp.later hB)).mono ?_
 rintro x w1 ⟨rfl,hb1⟩
 rw[hi]
 have hs1':=hb1.size
 obtain⟨hc,hf,hr,hlt⟩:=ai (aA hb1 hx2)
 dsimp only
 have hlt4:w.heap.size+1<w1.heap.size:=by have:=hb1.size;omega
 have hz1:=(gY hb1 (w.heap.size+1) 0 4 (by omega)).trans hz
 have hne:w.heap.size+1≠w.heap.size:=by omega
 go_wp2_with fail
 have hrow:=iV (w:=w1) (iT e q D) hz1
 exact bodyPost_ret (kX (by rfl) Tryz.underlying44 rfl (by kernel_rfl) rfl hrow) rfl ⟨rfl,Go.WW.Below.putRow (ag hB hb1) (by omega)⟩
theorem akC(e q:Sl)(D:Db)(k:ByteArray)(w:World)(hp:fG w q.a D.ax)(jp:Nat)(hi:idxOf (fun z=>decide (z.name=k)) D.ax=(jp:Int))(hE:iZ w e.a D.entries)(j:Nat)(hj:j<D.entries.length)(hjk:D.entries[j].aK=k)(hpre:∀i (h:i<D.entries.length),i<j→¬D.entries[i].aK=k):Calls Tryz.prog 40 #[.agg (aj e q D),.string k] w fun x w'=>x=.returned (.tuple #[.agg (aj e q D),.int .i64 11])∧Below w.heap.size w w':=by
 have hEl:D.entries.length≤4294967000:=hE.1
 rcases aO.addr hE with h0|⟨b,oo,ha,hb⟩
 ·omega
 have hB:Below w.heap.size w ((w.alloc (.cells (aj e q D) 44)).alloc (.cells #[.string ⟨#[]⟩,.int .i64 0,.slice none 0 0,.slice none 0 0] 44)):=((Below.refl _ _).alloc (Nat.le_refl _) _).alloc (by simp) _
 have hx2:((w.alloc (.cells (aj e q D) 44)).alloc (.cells #[.string ⟨#[]⟩,.int .i64 0,.slice none 0 0,.slice none 0 0] 44)).heap[w.heap.size]?=some (.cells (aj e q D) 44):=lS w _ _
 have hz:aJ ((w.alloc (.cells (aj e q D) 44)).alloc (.cells #[.string ⟨#[]⟩,.int .i64 0,.slice none 0 0,.slice none 0 0] 44)) (w.heap.size+1) 0 4=true:=by simp[go_sem]
 have hW:((w.alloc (.cells (aj e q D) 44)).alloc (.cells #[.string ⟨#[]⟩,.int .i64 0,.slice none 0 0,.slice none 0 0] 44)).heap.size=w.heap.size+1+1:=by simp
 go_enter Tryz.func40,Tryz.ntmps40
 go_wp2_with fail
 generalize ((w.alloc (.cells (aj e q D) 44)).alloc (.cells #[.string ⟨#[]⟩,.int .i64 0,.slice none 0 0,.slice none 0 0] 44))=W at *
 refine(Bj _ _ _ _ _ (hp.later hB)).mono ?_
 rintro x w1 ⟨rfl,hb1⟩
 rw[hi]
 have hs1':=hb1.size
 obtain⟨hc,hf,hr,hlt⟩:=ai (aA hb1 hx2)
 dsimp only
 have Jb:¬(jp:Int)<0:=by omega
 go_wp2_with fail
 go_loop [7] (fun iv=>∃i:Nat,i≤j∧iv=.int .i64 i) (fun iv=>j-(intOf iv).toNat)
 case atStart=>exact⟨0,Nat.zero_le _,rfl⟩
 case round=>
  obtain⟨i,hi',rfl⟩:=hrel
  have hB1:=ag hB hb1
  rw[ha]at hE
  have hil:i<D.entries.length:=by omega
  have hcell:=(hB1.cell (p:=⟨b,oo+i*17+6,none⟩) hb).trans (iZ.aK hE i hil)
  have hii:(i:Int)<(D.entries.length:Int):=by omega
  have hbw:b<w1.heap.size:=Nat.lt_of_lt_of_le hb hB1.size
  have hc2:=(hc 2).trans (Eu e q D)
  rw[ha]at hc2
  by_cases hlt':i<j
  ·have hne':=kD _ _ (hpre i hil hlt')
   go_wp2_with fail
   go_round
   case rel=>exact⟨i+1,by omega,by go_num⟩
   case measure=>simp[intOf];omega
  ·obtain rfl:i=j:=by omega
   have heq':=str_eq _ _ hjk
   have hlt4:w.heap.size+1<w1.heap.size:=by have:=hb1.size;omega
   have hz1:=(gY hb1 (w.heap.size+1) 0 4 (by omega)).trans hz
   have hne:w.heap.size+1≠w.heap.size:=by omega
   go_wp2_with fail
   have hrow:=iV (w:=w1) (iT e q D) hz1
   exact bodyPost_ret (kX (by rfl) Tryz.underlying44 rfl (by kernel_rfl) rfl hrow) rfl ⟨rfl,Go.WW.Below.putRow (ag hB hb1) (by omega)⟩
theorem akD(e q:Sl)(D:Db)(k:ByteArray)(w:World)(hp:fG w q.a D.ax)(jp:Nat)(hi:idxOf (fun z=>decide (z.name=k)) D.ax=(jp:Int))(hE:iZ w e.a D.entries)(hn:∀i (h:i<D.entries.length),¬D.entries[i].aK=k)(hjp:jp<D.ax.length)(hcap:D.ax.length≤q.cap)(hs0:0≤D.ay)(hs1:D.ay<1000000):Calls Tryz.prog 40 #[.agg (aj e q D),.string k] w (Ov e {D with ax:=D.ax.eraseIdx jp,ay:=D.ay+1} 0 w):=by
 have hEl:D.entries.length≤4294967000:=hE.1
 rcases aO.addr hp with h0|⟨pb,po,hpa,hpb⟩
 ·omega
 have Yz:=Lib.hid hpa
 clear hpa
 have hB:Below w.heap.size w ((w.alloc (.cells (aj e q D) 44)).alloc (.cells #[.string ⟨#[]⟩,.int .i64 0,.slice none 0 0,.slice none 0 0] 44)):=((Below.refl _ _).alloc (Nat.le_refl _) _).alloc (by simp) _
 have hx2:((w.alloc (.cells (aj e q D) 44)).alloc (.cells #[.string ⟨#[]⟩,.int .i64 0,.slice none 0 0,.slice none 0 0] 44)).heap[w.heap.size]?=some (.cells (aj e q D) 44):=lS w _ _
 have hz:aJ ((w.alloc (.cells (aj e q D) 44)).alloc (.cells #[.string ⟨#[]⟩,.int .i64 0,.slice none 0 0,.slice none 0 0] 44)) (w.heap.size+1) 0 4=true:=by simp[go_sem]
 have hW:((w.alloc (.cells (aj e q D) 44)).alloc (.cells #[.string ⟨#[]⟩,.int .i64 0,.slice none 0 0,.slice none 0 0] 44)).heap.size=w.heap.size+1+1:=by simp
 go_enter Tryz.func40,Tryz.ntmps40
 go_wp2_with fail
 generalize ((w.alloc (.cells (aj e q D) 44)).alloc (.cells #[.string ⟨#[]⟩,.int .i64 0,.slice none 0 0,.slice none 0 0] 44))=W at *
 refine(Bj _ _ _ _ _ (hp.later hB)).mono ?_
 rintro x w1 ⟨rfl,hb1⟩
 rw[hi]
 have hs1':=hb1.size
 obtain⟨hc,hf,hr,hlt⟩:=ai (aA hb1 hx2)
 dsimp only
 have Jb:¬(jp:Int)<0:=by omega
 go_wp2_with fail
 go_loop [7] (fun iv=>∃i:Nat,i≤D.entries.length∧iv=.int .i64 i) (fun iv=>D.entries.length-(intOf iv).toNat)
 case atStart=>exact⟨0,Nat.zero_le _,rfl⟩
 case round=>
  obtain⟨i,hi',rfl⟩:=hrel
  have hB1:=ag hB hb1
  by_cases hlt':i<D.entries.length
  ·have hne':=kD _ _ (hn i hlt')
   obtain⟨b,oo,ha,hb⟩:∃b o,e.a=some ⟨b,o,none⟩∧b<w.heap.size:=by rcases aO.addr hE with h0|h0;omega;exact h0
   rw[ha]at hE
   have hcell:=(hB1.cell (p:=⟨b,oo+i*17+6,none⟩) hb).trans (iZ.aK hE i hlt')
   have hii:(i:Int)<(D.entries.length:Int):=by omega
   have hbw:b<w1.heap.size:=Nat.lt_of_lt_of_le hb hB1.size
   have hc2:=(hc 2).trans (Eu e q D)
   rw[ha]at hc2
   go_wp2_with fail
   go_round
   case rel=>exact⟨i+1,by omega,by go_num⟩
   case measure=>simp[intOf];omega
  ·obtain rfl:i=D.entries.length:=by omega
   have hc3:=(hc 3).trans (IJ e q D)
   rw[Yz.out]at hc3
   have hg1:(jp:Int)≤(q.cap:Int):=by omega
   have hg2:(jp:Int)+1≤(D.ax.length:Int):=by omega
   have hg3:(D.ax.length:Int)≤(q.cap:Int):=by omega
   have jL:=Lib.hid ((hp.later (ag hB1 (aC (Below.refl _ w1).drew (.cells #[] 35)))).src.take jp)
   have HO:=Lib.hid (Own.empty w1.drew 35 10)
   have hpl:D.ax.length≤4294967000:=hp.1
   go_wp2_with fail
   refine akA (mX (fun _=>False) w1) eU (by kernel_rfl) (by kernel_rfl) (by kernel_rfl) ⟨⟨World.drew w1,(But.refl _ _).drew⟩,rfl⟩ ?_
   repeat (first|(refine aP (by rfl) ?_)|(refine aN (by rfl) (by rfl) (fun K hK=>?_);go_big_quiet_op;refine hK _ ?_;clear hK K))
   refine aS (by rfl) (by rfl) (fun K hK=>?_)
   go_wp2_with fail
   refine hK _ _ (bI (But.of_below (aC (Below.refl _ w1).drew _))) ?_
   clear hK K
   repeat (first|(refine aP (by rfl) ?_)|(refine aN (by rfl) (by rfl) (fun K hK=>?_);go_big_quiet_op;refine hK _ ?_;clear hK K))
   refine aS (by rfl) (by rfl) (fun K hK=>?_)
   refine zG (.tmp 30) (.tmp 34) _ rfl EJ (n:=0) (s:=⟨some ⟨w1.heap.size,0,none⟩,0⟩) rfl rfl HO.out rfl (by simp;omega) jL.out (by simp;omega) (by simp) ?_
   intro s3 w3 hown3 hg3 fQ
   have hb3:Below w1.heap.size w1 w3:=(aC (Below.refl _ w1).drew (.cells #[] 35)).grown hg3 (by simp) (fun k' e'=>by cases e';exact Nat.le_refl _)
   go_wp2_with fail
   refine hK _ _ (bI (But.of_below hb3)) ?_
   clear hK K
   repeat (first|(refine aP (by rfl) ?_)|(refine aN (by rfl) (by rfl) (fun K hK=>?_);go_big_quiet_op;refine hK _ ?_;clear hK K))
   have hs2:=((hp.later (ag hB1 hb3)).src).tail Yz.out q.cap (jp+1) (by rw[List.length_map];exact hcap)
   generalize (if q.cap=jp+1 then q.a else Option.map (fun x=>x.add ((jp+1)*10)) q.a)=A2 at *
   refine aS (by rfl) (by rfl) (fun K hK=>?_)
   refine zG (.tmp 35) (.tmp 40) _ rfl EJ (n:=jp) (s:=s3) rfl (by simp;omega) hown3 rfl (by rw[List.length_drop,List.length_map]) hs2 (by simp;omega) hb3.size ?_
   intro s4 w4 hown4 hg4 Oc
   have hb4:Below w1.heap.size w1 w4:=hb3.grown hg4 hb3.size (fun k' e'=>(hown3.base e').1)
   go_wp2_with fail
   refine hK _ _ (bI (But.of_below hb4)) ?_
   clear hK K
   repeat (first|(refine aP (by rfl) ?_)|(refine aN (by rfl) (by rfl) (fun K hK=>?_);go_big_quiet_op;refine hK _ ?_;clear hK K))
   refine bW ?_
   unfold vZ
   simp only[List.getLast?_cons_cons,List.getLast?_singleton]
   have O3:=ag hb1 hb4
   have hy2:=aA O3 hx2
   have YA:(D.ax.eraseIdx jp).length=jp+(D.ax.length-(jp+1)):=by rw[List.length_eraseIdx_of_lt hjp];omega
   have hLE:([]++(D.ax.map az).take jp)++(D.ax.map az).drop (jp+1)=(D.ax.eraseIdx jp).map az:=by rw[List.nil_append,List.eraseIdx_eq_take_drop_succ,List.map_append,List.map_take,List.map_drop]
   rw[hLE]at hown4
   have HOW:=Lib.hid hown4
   have I9:(D.ay+1).tmod 4611686018427387904=D.ay+1:=Int.tmod_eq_of_lt (by omega) (by omega)
   have hne2:w.heap.size+1≠w.heap.size:=by omega
   have hset:=cZ (o:=1) (.int .i64 (D.ay+1)) (cZ (o:=3) (.slice s4.a (jp+(D.ax.length-(jp+1))) s4.cap) hy2)
   have EM:row? ((w4.setCell ⟨w.heap.size,3,none⟩ (.slice s4.a (jp+(D.ax.length-(jp+1))) s4.cap)).setCell ⟨w.heap.size,1,none⟩ (.int .i64 (D.ay+1))) w.heap.size 0 4=some (aj e s4 {D with ax:=D.ax.eraseIdx jp,ay:=D.ay+1}):=(bV hset).trans (by rw[←YA];kernel_rfl)
   have hlt4:w.heap.size+1<w4.heap.size:=by have:=O3.size;omega
   have hcp:aJ ((w4.setCell ⟨w.heap.size,3,none⟩ (.slice s4.a (jp+(D.ax.length-(jp+1))) s4.cap)).setCell ⟨w.heap.size,1,none⟩ (.int .i64 (D.ay+1))) (w.heap.size+1) 0 4=true:=(kW hne2).trans ((kW hne2).trans ((gY O3 (w.heap.size+1) 0 4 (by omega)).trans hz))
   clear hc hf hr hlt hown4 hown3 hset YA
   obtain⟨hc,hf,-,hlt⟩:=ai hy2
   generalize hX':D.ax.eraseIdx jp=X' at *
   have HXM:=Lib.hid (show ∀x∈X',x.name.size≤lim from fun x hx=>by
    have hx':x∈D.ax:=List.mem_of_mem_eraseIdx (by rw[hX'];exact hx)
    obtain⟨i',hi',rfl⟩:=List.mem_iff_getElem.1 hx'
    exact(fG.get hp i' hi').choose_spec.choose_spec.2.2)
   have vY:=Lib.hid (show X'.length≤lim by rw[←hX',List.length_eraseIdx_of_lt hjp];exact Nat.le_trans (Nat.sub_le _ _) hp.1)
   clear hX'
   go_wp2_with fail
   have hrow:=iV (iT e s4 {D with ax:=X',ay:=D.ay+1}) hcp
   refine bodyPost_ret (kX (by rfl) Tryz.underlying44 rfl (by kernel_rfl) rfl hrow) rfl ⟨s4,rfl,Go.WW.Below.putRow (((ag hB1 hb4).setCell (Nat.le_refl _) _).setCell (Nat.le_refl _) _) (Nat.le_succ _),fun y hy=>?_⟩
   have hsz1:w.heap.size≤w1.heap.size:=hB1.size
   have arN:w.heap.size+1+1≤w1.heap.size:=by omega
   have IX:=HOW.out.kept (w':=y) (fun g hg=>by
    have hg1:=HOW.out.base hg
    have h1:w1.heap.size≤g:=hg1.1
    rw[hy g ⟨by omega,by rw[jS];simp only[World.setCell,Array.size_modify];exact hg1.2⟩,jh (by omega),Below.heap_setCell _ _ _ _ (show g≠w.heap.size by omega),Below.heap_setCell _ _ _ _ (show g≠w.heap.size by omega)])
   exact⟨fG.dX IX vY.out HXM.out,by have h9:=Go.WW.Own.cap IX;rw[List.length_map]at h9;exact h9⟩
end Go.Proofs.YtaghcadlgbnbdaaGreatDoor
namespace Go.WW
open Go.RowKit
theorem YB{D:Db}{X:List EE}(hD:D.entries=X.map (·.2))(q:aB) :
  (idxOf (fun z=>bn z.name q) D.entries=-1∧∀x∈X,bn x.2.name q=false)∨∃i,∃hi:i<X.length,idxOf (fun z=>bn z.name q) D.entries=(i:Int)∧bn X[i].2.name q=true:=by
 rw[hD]
 unfold idxOf
 cases hf:(X.map (·.2)).findIdx? (fun z=>bn z.name q)with
 |none=>
  refine .inl ⟨rfl,fun x hx=>?_⟩
  exact(List.findIdx?_eq_none_iff.1 hf) x.2 (List.mem_map.2 ⟨x,hx,rfl⟩)
 |some i=>
  obtain⟨hi,h1,-⟩:=List.findIdx?_eq_some_iff_getElem.1 hf
  refine .inr ⟨i,by simpa using hi,rfl,by simpa using h1⟩
theorem akG{D D':Db}{X X':List EE}{q:aB}{no:Int}(h:vW D X q no D' X'):D'.ax=D.ax∧D'.aG=D.aG∧D.ay≤D'.ay∧D'.ay≤D.ay+1∧X'.length≤X.length:=by
 cases h with
 |none=>exact⟨rfl,rfl,by omega,by omega,by omega⟩
 |yes i hi=>exact⟨rfl,rfl,by simp;omega,by simp,by rw[List.length_eraseIdx_of_lt hi];omega⟩
theorem akH{D D':Db}{X X':List EE}{q:aB}{f a b no:Int}(h:uI D X q f a b no D' X'):D'.ax=D.ax∧D'.aG=D.aG∧D.ay≤D'.ay∧D'.ay≤D.ay+1∧X'.length≤X.length:=by
 cases h with
 |bad=>exact⟨rfl,rfl,by omega,by omega,by omega⟩
 |none=>exact⟨rfl,rfl,by omega,by omega,by omega⟩
 |yes=>exact⟨rfl,rfl,by simp;omega,by simp,by simp⟩
theorem akI{D D':Db}{k:ByteArray}{no:Int}(h:uG D k no D'):D'.entries=D.entries∧D'.aG=D.aG∧D.ay≤D'.ay∧D'.ay≤D.ay+1∧D'.ax.length≤D.ax.length∧D'.ax.Sublist D.ax:=by
 cases h with
 |none=>exact⟨rfl,rfl,by omega,by omega,by omega,List.Sublist.refl _⟩
 |busy=>exact⟨rfl,rfl,by omega,by omega,by omega,List.Sublist.refl _⟩
 |yes i hi=>exact⟨rfl,rfl,by simp;omega,by simp,by simp only[];rw[List.length_eraseIdx_of_lt hi];omega,List.eraseIdx_sublist _ _⟩
theorem uF.dR{w:World}{a:Option Addr}{X:List EE}(h:uF w a X):iZ w a (X.map (·.2)):=h.rows.dR h.each
end Go.WW
namespace Go.Proofs.YtaghcadlgbnbdaaGreatDoor
open Go.RowKit Go.WW
section
variable (S:Nat→Prop) (es ps:Sl) (D:Db) (X:List EE) (w:World)
theorem akJ(t:Sl)(q:aB)(h:gW S es ps D X w)(hS:∀k,S k→k<w.heap.size)(hq:bg w t q)(hD:D.entries=X.map (·.2))(hs0:0≤D.ay)(hs1:D.ay<1000000) :
  Calls Tryz.prog 36 #[.agg (aj es ps D),.agg (ak t q)] w fun z w'=>∃(no:Int) (es':Sl) (D':Db) (X':List EE),z=.returned (.tuple #[.agg (aj es' ps D'),.int .i64 no])∧Below w.heap.size w w'∧gW S es' ps D' X' w'∧vW D X q no D' X':=by
 have hX:=h.dR.out.rows
 have hm:=h.dR.out.each
 rcases YB hD q with⟨hi,hn⟩|⟨i,hi,hat,hn⟩
 ·refine(akl es ps D t q w hq (by rw[hD];exact h.dR.out.dR) hi).mono ?_
  rintro z w' ⟨rfl,hb⟩
  exact⟨9,es,D,X,rfl,hb,h.later hb,.none hn⟩
 ·refine(akm es ps D t q w hq X hX hm hD i hi hat hs0 hs1).mono ?_
  rintro z w' ⟨s,rfl,hb,hd⟩
  have hsub:=List.eraseIdx_sublist X i
  exact⟨0,s,_,X.eraseIdx i,rfl,hb,⟨fun y hy=>⟨ja.ES hd hS y hy,fun x hx=>(h.dR y ((But.of_below hb).trans hy)).each x (hsub.mem hx)⟩,h.eu.later hb,h.cap⟩,.yes i hi hn⟩
theorem akK(t:Sl)(q:aB)(f la su:Int)(h:gW S es ps D X w)(hS:∀k,S k→k<w.heap.size)(hq:bg w t q)(hD:D.entries=X.map (·.2))(hg:gy (X.map (·.2)))(hs0:0≤D.ay)(hs1:D.ay<1000000) :
  Calls Tryz.prog 38 #[.agg (aj es ps D),.agg (ak t q),.int .i64 f,.int .i64 la,.int .i64 su] w fun z w'=>∃(no:Int) (es':Sl) (D':Db) (X':List EE),z=.returned (.tuple #[.agg (aj es' ps D'),.int .i64 no])∧Below w.heap.size w w'∧gW S es' ps D' X' w'∧uI D X q f la su no D' X':=by
 have hX:=h.dR.out.rows
 have hm:=h.dR.out.each
 cases hv:jD f la su with
 |false=>
  refine(akp es ps D t q w hq f la su hv).mono ?_
  rintro z w' ⟨rfl,hb⟩
  exact⟨2,es,D,X,rfl,hb,h.later hb,.bad hv⟩
 |true=>
  rcases YB hD q with⟨hi,hn⟩|⟨i,hi,hat,hn⟩
  ·refine(akq es ps D t q w hq f la su hv (by rw[hD];exact h.dR.out.dR) hi).mono ?_
   rintro z w' ⟨rfl,hb⟩
   exact⟨9,es,D,X,rfl,hb,h.later hb,.none hv hn⟩
  ·have hk:textOf X[i].2.name=fU q:=(OT (hg.ok _ (List.mem_map.2 ⟨_,List.getElem_mem hi,rfl⟩))).1 hn
   refine(akr es ps D t q w hq f la su hv X hX hm hD i hi hat hs0 hs1 (X.map (uH (fU q) f la su)) (ajJ hg hi hk f la su)).mono ?_
   rintro z w' ⟨s,rfl,hb,hd⟩
   refine⟨0,s,_,_,rfl,hb,⟨fun y hy=>⟨ja.ES hd hS y hy,fun x hx=>?_⟩,h.eu.later hb,h.cap⟩,.yes hv i hi hn⟩
   obtain⟨z,hz,rfl⟩:=List.mem_map.1 hx
   exact((h.dR y ((But.of_below hb).trans hy)).each z hz).touched _ _ _ _
theorem akL(k:ByteArray)(h:gW S es ps D X w)(hS:∀k,S k→k<w.heap.size)(hD:D.entries=X.map (·.2))(_hn:(D.ax.map (·.name)).Nodup)(hs0:0≤D.ay)(hs1:D.ay<1000000) :
  Calls Tryz.prog 40 #[.agg (aj es ps D),.string k] w fun z w'=>∃(no:Int) (ps':Sl) (D':Db),z=.returned (.tuple #[.agg (aj es ps' D'),.int .i64 no])∧Below w.heap.size w w'∧gW S es ps' D' X w'∧uG D k no D':=by
 have hp:=h.eu.out
 have hE:iZ w es.a D.entries:=by rw[hD];exact h.dR.out.dR
 rcases BA D.ax k with⟨hi,ha⟩|⟨i,hil,hi,hnm,-⟩
 ·refine(akB es ps D k w hp hi).mono ?_
  rintro z w' ⟨rfl,hb⟩
  exact⟨9,ps,D,rfl,hb,h.later hb,.none ha⟩
 ·by_cases hb:∃j,∃hj:j<D.entries.length,D.entries[j].aK=k
  ·obtain⟨j,⟨hj,hjk⟩,hpre⟩:∃j,(∃hj:j<D.entries.length,D.entries[j].aK=k)∧∀i,i<j→¬∃hi:i<D.entries.length,D.entries[i].aK=k:=by
    obtain⟨j0,hj0,e0⟩:=hb
    obtain⟨j,-,h2,h3⟩:=XV (fun j=>∃hj:j<D.entries.length,D.entries[j].aK=k) (j0+1) ⟨j0,by omega,hj0,e0⟩
    exact⟨j,h2,h3⟩
   refine(akC es ps D k w hp i hi hE j hj hjk (fun i' hi' hlt e=>hpre i' hlt ⟨hi',e⟩)).mono ?_
   rintro z w' ⟨rfl,hb'⟩
   exact⟨11,ps,D,rfl,hb',h.later hb',.busy i hil hnm ⟨_,List.getElem_mem hj,hjk⟩⟩
  ·refine(akD es ps D k w hp i hi hE (fun j hj e=>hb ⟨j,hj,e⟩) hil h.cap hs0 hs1).mono ?_
   rintro z w' ⟨s,rfl,hb',hd⟩
   refine⟨0,s,_,rfl,hb',⟨h.dR.later hb',fun y hy=>(ja.ES hd hS y hy).1,hd.out.2⟩,.yes i hil hnm fun x hx e=>?_⟩
   obtain⟨j,hj,rfl⟩:=List.mem_iff_getElem.1 hx
   exact hb ⟨j,hj,e⟩
end
end Go.Proofs.YtaghcadlgbnbdaaGreatDoor
namespace Go.WW
open Go.RowKit
def oD(v v':Value):Prop:=v'=v∨(∃s s',v=.string s∧v'=.string s')∨(∃k a b,v=.int k a∧v'=.int k b)
theorem oD.refl(v:Value):oD v v:=.inl rfl
theorem oD.trans{a b c:Value}(h:oD a b)(k:oD b c):oD a c:=by
 rcases h with rfl|⟨s,s',rfl,rfl⟩|⟨t,x,y,rfl,rfl⟩
 ·exact k
 ·rcases k with rfl|⟨s1,s2,h1,rfl⟩|⟨t,x,y,h1,rfl⟩
  iterate 2
   ·exact .inr (.inl ⟨_,_,rfl,rfl⟩)
  ·cases h1
 ·rcases k with rfl|⟨s1,s2,h1,rfl⟩|⟨t',x',y',h1,rfl⟩
  ·exact .inr (.inr ⟨_,_,_,rfl,rfl⟩)
  ·cases h1
  ·cases h1;exact .inr (.inr ⟨_,_,_,rfl,rfl⟩)
structure Sp(m:Nat)(w w':World):Prop where
 os:w'.os=w.os
 tape:w'.tape=w.tape
 output:w'.output=w.output
 size:w'.heap.size=w.heap.size
 block:∀b,b<m→w'.heap[b]?=w.heap[b]?
 cells:∀(b:Nat) c t f,w.heap[b]?=some (Obj.cells c t f)→∃c',w'.heap[b]?=some (Obj.cells c' t f)∧c'.size=c.size∧∀(i:Nat) v,c[i]?=some v→∃v',c'[i]?=some v'∧oD v v'
theorem Sp.refl(m:Nat)(w:World):Sp m w w:=⟨rfl,rfl,rfl,rfl,fun _ _=>rfl,fun _ c _ _ h=>⟨c,h,rfl,fun _ v hv=>⟨v,hv,oD.refl v⟩⟩⟩
theorem Sp.but{m:Nat}{w w':World}(h:Sp m w w'):But (fun b=>m≤b) w w':=⟨h.os,h.tape,h.output,by rw[h.size];exact Nat.le_refl _,fun b _ hn=>h.block b (by omega)⟩
theorem Sp.kin{m:Nat}{w w':World}(h:Sp m w w'){b o:Nat}{v:Value}(hc:w.cell? ⟨b,o,none⟩=some v):∃v',w'.cell? ⟨b,o,none⟩=some v'∧oD v v':=by
 unfold World.cell? at hc ⊢
 dsimp only at hc ⊢
 split at hc
 ·rename_i c t f hb
  obtain⟨c',h1,h2,h3⟩:=h.cells b c t f hb
  rw[h1]
  simp only[Option.isSome_none,Bool.false_eq_true,if_false]at hc ⊢
  exact h3 o v hc
 ·cases hc
theorem Sp.slice{m:Nat}{w w':World}(h:Sp m w w'){b o n c:Nat}{a:Option Addr}(hc:w.cell? ⟨b,o,none⟩=some (.slice a n c)):w'.cell? ⟨b,o,none⟩=some (.slice a n c):=by
 obtain⟨v',h1,rfl|⟨s,s',h2,-⟩|⟨k,x,y,h2,-⟩⟩:=h.kin hc
 ·exact h1
 ·cases h2
 ·cases h2
theorem Sp.string{m:Nat}{w w':World}(h:Sp m w w'){b o:Nat}{s:ByteArray}(hc:w.cell? ⟨b,o,none⟩=some (.string s)):∃s',w'.cell? ⟨b,o,none⟩=some (.string s'):=by
 obtain⟨v',h1,rfl|⟨s1,s',h2,rfl⟩|⟨k,x,y,h2,-⟩⟩:=h.kin hc
 ·exact⟨s,h1⟩
 ·exact⟨s',h1⟩
 ·cases h2
theorem Sp.int{m:Nat}{w w':World}(h:Sp m w w'){b o:Nat}{k:IntKind}{x:Int}(hc:w.cell? ⟨b,o,none⟩=some (.int k x)):∃y,w'.cell? ⟨b,o,none⟩=some (.int k y):=by
 obtain⟨v',h1,rfl|⟨s1,s',h2,rfl⟩|⟨k',x',y,h2,rfl⟩⟩:=h.kin hc
 ·exact⟨x,h1⟩
 ·cases h2
 ·cases h2;exact⟨y,h1⟩
theorem Sp.aJ{m:Nat}{w w':World}(h:Sp m w w'){b o n:Nat}(hp:aJ w b o n=true):aJ w' b o n=true:=by
 unfold Go.WW.aJ at hp ⊢
 split at hp
 ·rename_i c t f hb
  obtain⟨c',h1,h2,h3⟩:=h.cells b c t f hb
  rw[h1]
  simpa only[h2]using hp
 ·cases hp
theorem xR{w:World}{b o n:Nat}(hp:aJ w b o n=true)(o':Nat):w.frozen? ⟨b,o',none⟩=false:=by
 unfold aJ at hp
 split at hp
 ·rename_i c t f hb
  simp only[Bool.and_eq_true,decide_eq_true_eq]at hp
  obtain⟨-,rfl⟩:=hp
  exact frozen_of_row w b o' c t hb
 ·cases hp
theorem Sp.setCell{m:Nat}{w w':World}(h:Sp m w w'){b o:Nat}{v0 v:Value}(hm:m≤b)(hc:w.cell? ⟨b,o,none⟩=some v0)(hk:oD v0 v):Sp m w (w'.setCell ⟨b,o,none⟩ v):=by
 refine⟨h.os,h.tape,h.output,by rw[←h.size];simp[World.setCell],fun k hk'=>(Below.heap_setCell _ _ _ _ (by simp;omega)).trans (h.block k hk'),fun k c t f hkb=>?_⟩
 obtain⟨c',h1,h2,h3⟩:=h.cells k c t f hkb
 by_cases e:k=b
 ·subst e
  refine⟨c'.setIfInBounds o v,?_,by simp[h2],fun i u hu=>?_⟩
  ·have hlt:k<w'.heap.size:=(Array.getElem?_eq_some_iff.1 h1).1
   simp only[World.setCell]
   rw[Array.getElem?_modify,if_pos rfl,h1]
   rfl
  ·obtain⟨u',h4,h5⟩:=h3 i u hu
   by_cases ei:o=i
   ·subst ei
    refine⟨v,by rw[Array.getElem?_setIfInBounds,if_pos rfl,if_pos (Array.getElem?_eq_some_iff.1 h4).1],?_⟩
    have:u=v0:=by
     unfold World.cell? at hc
     dsimp only at hc
     rw[hkb]at hc
     simp only[Option.isSome_none,Bool.false_eq_true,if_false]at hc
     rw[hu]at hc;cases hc;rfl
    rw[this];exact hk
   ·exact⟨u',by rw[Array.getElem?_setIfInBounds,if_neg ei];exact h4,h5⟩
 ·exact⟨c',(Below.heap_setCell _ _ _ _ (by simpa using e)).trans h1,h2,h3⟩
theorem kY.later{m:Nat}{w w':World}{r:aI}{d:Entry}(h:kY m w r d)(hb:Below w.heap.size w w'):kY m w' r d:=by
 have wr:∀{a:Option Addr} {n k:Nat},iJ m w a n k→iJ m w' a n k:=fun h1 i hi=>by
  obtain⟨b,o,e,h2,h3⟩:=h1 i hi
  refine⟨b,o,e,h2,?_⟩
  have hlt:b<w.heap.size:=by
   unfold aJ at h3
   split at h3
   ·rename_i hb';exact(Array.getElem?_eq_some_iff.1 hb').1
   ·cases h3
  rw[tJ (hb.block b hlt)];exact h3
 refine⟨h.at_.later hb,wr h.name,wr h.aliases,aO.later hb (fun i cs=>?_) h.keys.1,wr h.keys.2⟩
 rintro⟨p,s,h1,h2,h3,h4⟩
 refine⟨p,s,h1,h2,aO.later hb (fun j cs=>?_) h3,h4⟩
 rintro⟨q,t,h5,h6,h7,h8⟩
 exact⟨q,t,h5,h6,BytesAt.later hb h7,wr h8⟩
theorem nX.get{m:Nat}{w:World}{a:Option Addr}{l:List aW}(h:nX m w a l)(i:Nat)(hi:i<l.length) :
  ∃b o,∃s:Sl,a=some ⟨b,o,none⟩∧m≤b∧w.frozen? ⟨b,o+i*5,none⟩=false∧aJ w b (o+i*5) 5=true∧w.cell? ⟨b,o+i*5,none⟩=some (.int .i64 l[i].version)∧w.cell? ⟨b,o+i*5+1,none⟩=some (.slice s.a l[i].keys.length s.cap)∧uk m w s.a l[i].keys:=by
 obtain⟨b,o,ha,hm,hp⟩:=h.2 i hi
 obtain⟨b',o',cs,ha',hr,p,s,hp',rfl,hs⟩:=h.1.2 i hi
 rw[ha]at ha';cases ha'
 rw[List.getElem?_eq_getElem hi]at hp';cases hp'
 have h0:=gp hr 0 (by omega)
 have h1:=gp hr 1 (by omega)
 rw[DR]at h0
 rw[DT]at h1
 exact⟨b,o,s,ha,hm,xR hp _,hp,by simpa using h0,h1,hs.1⟩
theorem uk.get{m:Nat}{w:World}{a:Option Addr}{l:List Key}(h:uk m w a l)(i:Nat)(hi:i<l.length) :
  ∃b o,∃s:Sl,a=some ⟨b,o,none⟩∧w.cell? ⟨b,o+i*3+2,none⟩=some (.slice s.a l[i].bytes.length s.cap)∧xC m w s.a l[i].bytes:=by
 obtain⟨b,o,cs,ha,hr,p,s,hp',rfl,hs⟩:=h.2 i hi
 rw[List.getElem?_eq_getElem hi]at hp';cases hp'
 have h1:=gp hr 2 (by omega)
 rw[Ha]at h1
 exact⟨b,o,s,ha,h1,hs⟩
theorem xC.get{m:Nat}{w:World}{a:Option Addr}{l:List UInt8}(h:xC m w a l)(i:Nat)(hi:i<l.length) :
  ∃b o,a=some ⟨b,o,none⟩∧m≤b∧aJ w b (o+i) 1=true∧w.cell? ⟨b,o+i,none⟩=some (.int .u8 l[i].toNat):=by
 obtain⟨b,o,ha,hm,hp⟩:=h.2 i hi
 obtain⟨b',o',ha',hc⟩:=BytesAt.get h.1 i hi
 rw[ha]at ha';cases ha'
 exact⟨b,o,ha,hm,by simpa using hp,hc⟩
theorem kY.part{m:Nat}{w:World}{r:aI}{d:Entry}(h:kY m w r d)(i:Nat)(hi:i<d.name.parts.length) :
  ∃b o s,r.parts.a=some ⟨b,o,none⟩∧m≤b∧aJ w b (o+i) 1=true∧w.cell? ⟨b,o+i,none⟩=some (.string s):=by
 obtain⟨b,o,ha,hm,hp⟩:=h.name i hi
 obtain⟨b',o',ha',hc,-⟩:=iU.get h.at_.name.1 i hi
 rw[ha]at ha';cases ha'
 exact⟨b,o,_,ha,hm,by simpa using hp,hc⟩
theorem kY.alias{m:Nat}{w:World}{r:aI}{d:Entry}(h:kY m w r d)(i:Nat)(hi:i<d.aliases.length) :
  ∃b o s,r.aliases.a=some ⟨b,o,none⟩∧m≤b∧aJ w b (o+i*2) 2=true∧w.cell? ⟨b,o+i*2+1,none⟩=some (.string s):=by
 obtain⟨b,o,ha,hm,hp⟩:=h.aliases i hi
 obtain⟨b',o',s,ha',hr,-⟩:=eG.get h.at_.aliases i hi
 rw[ha]at ha';cases ha'
 have h1:=gp hr 1 (by omega)
 rw[G9]at h1
 exact⟨b,o,_,ha,hm,hp,h1⟩
end Go.WW
namespace Go.Proofs.YtaghcadlgbnbdaaGreatDoor
open Go.RowKit Go.WW
end Go.Proofs.YtaghcadlgbnbdaaGreatDoor
namespace Go.WW
open Go.RowKit
def mg(S:Nat→Prop)(w:World)(a:Option Addr)(n k:Nat):Prop:=∀i,i<n→∃b o,a=some ⟨b,o,Option.none⟩∧S b∧aJ w b (o+i*k) k=true
def xU(S:Nat→Prop)(w:World)(a:Option Addr)(l:List UInt8):Prop:=BytesAt w a l∧mg S w a l.length 1
def akM(S:Nat→Prop)(w:World)(s:Sl)(k:Key):Prop:=xU S w s.a k.bytes
def uM(S:Nat→Prop)(w:World)(a:Option Addr)(l:List Key):Prop:=aO w 3 a l.length fun i cs=>∃p s,l[i]?=some p∧cs=bY s p∧akM S w s p
def YC(S:Nat→Prop)(w:World)(s:Sl)(k:aW):Prop:=uM S w s.a k.keys∧k.fP.size≤lim
def BG(S:Nat→Prop)(w:World)(a:Option Addr)(l:List aW):Prop:=(aO w 5 a l.length fun i cs=>∃p s,l[i]?=some p∧cs=aV s p∧YC S w s p)∧mg S w a l.length 5
structure pz(S:Nat→Prop)(w:World)(r:aI)(d:Entry):Prop where
 at_:bz w r d
 name:mg S w r.parts.a d.name.parts.length 1
 aliases:mg S w r.aliases.a d.aliases.length 2
 keys:BG S w r.keys.a d.keys
theorem kY.toS{m:Nat}{w:World}{r:aI}{d:Entry}(h:kY m w r d):pz (fun b=>m≤b) w r d:=⟨h.at_,h.name,h.aliases,h.keys⟩
theorem mg.mono{S T:Nat→Prop}{w:World}{a:Option Addr}{n k:Nat}(h:mg S w a n k)(hS:∀b,S b→T b):mg T w a n k:=fun i hi=>by
 obtain⟨b,o,e,h1,h2⟩:=h i hi
 exact⟨b,o,e,hS b h1,h2⟩
theorem uM.mono{S T:Nat→Prop}{w:World}{a:Option Addr}{l:List Key}(h:uM S w a l)(hS:∀b,S b→T b):uM T w a l:=
 aO.imp h fun _ _ ⟨p,s,h1,h2,h3⟩=>⟨p,s,h1,h2,h3.1,h3.2.mono hS⟩
theorem uM.at_{S:Nat→Prop}{w:World}{a:Option Addr}{l:List Key}(h:uM S w a l):jR w a l:=aO.imp h fun _ _ ⟨p,s,h1,h2,h3⟩=>⟨p,s,h1,h2,h3.1⟩
theorem BG.at_{S:Nat→Prop}{w:World}{a:Option Addr}{l:List aW}(h:BG S w a l):jZ w a l:=aO.imp h.1 fun _ _ ⟨p,s,h1,h2,h3⟩=>⟨p,s,h1,h2,h3.1.at_,h3.2⟩
theorem pz.later{S:Nat→Prop}{w w':World}{r:aI}{d:Entry}(h:pz S w r d)(hb:Below w.heap.size w w'):pz S w' r d:=by
 have wr:∀{a:Option Addr} {n k:Nat},mg S w a n k→mg S w' a n k:=fun h1 i hi=>by
  obtain⟨b,o,e,h2,h3⟩:=h1 i hi
  refine⟨b,o,e,h2,?_⟩
  have hlt:b<w.heap.size:=by
   unfold aJ at h3
   split at h3
   ·rename_i hb';exact(Array.getElem?_eq_some_iff.1 hb').1
   ·cases h3
  rw[tJ (hb.block b hlt)];exact h3
 refine⟨h.at_.later hb,wr h.name,wr h.aliases,aO.later hb (fun i cs=>?_) h.keys.1,wr h.keys.2⟩
 rintro⟨p,s,h1,h2,h3,h4⟩
 refine⟨p,s,h1,h2,aO.later hb (fun j cs=>?_) h3,h4⟩
 rintro⟨q,t,h5,h6,h7,h8⟩
 exact⟨q,t,h5,h6,BytesAt.later hb h7,wr h8⟩
structure jc(S:Nat→Prop)(w w':World):Prop where
 os:w'.os=w.os
 tape:w'.tape=w.tape
 output:w'.output=w.output
 size:w'.heap.size=w.heap.size
 block:∀b,¬S b→w'.heap[b]?=w.heap[b]?
 cells:∀(b:Nat) c t f,w.heap[b]?=some (Obj.cells c t f)→∃c',w'.heap[b]?=some (Obj.cells c' t f)∧c'.size=c.size∧∀(i:Nat) v,c[i]?=some v→∃v',c'[i]?=some v'∧oD v v'
theorem jc.refl(S:Nat→Prop)(w:World):jc S w w:=⟨rfl,rfl,rfl,rfl,fun _ _=>rfl,fun _ c _ _ h=>⟨c,h,rfl,fun _ v hv=>⟨v,hv,oD.refl v⟩⟩⟩
theorem jc.but{S:Nat→Prop}{w w':World}(h:jc S w w'):But S w w':=⟨h.os,h.tape,h.output,by rw[h.size];exact Nat.le_refl _,fun b _ hn=>h.block b hn⟩
theorem jc.kin{S:Nat→Prop}{w w':World}(h:jc S w w'){b o:Nat}{v:Value}(hc:w.cell? ⟨b,o,none⟩=some v):∃v',w'.cell? ⟨b,o,none⟩=some v'∧oD v v':=by
 unfold World.cell? at hc ⊢
 dsimp only at hc ⊢
 split at hc
 ·rename_i c t f hb
  obtain⟨c',h1,h2,h3⟩:=h.cells b c t f hb
  rw[h1]
  simp only[Option.isSome_none,Bool.false_eq_true,if_false]at hc ⊢
  exact h3 o v hc
 ·cases hc
theorem jc.slice{S:Nat→Prop}{w w':World}(h:jc S w w'){b o n c:Nat}{a:Option Addr}(hc:w.cell? ⟨b,o,none⟩=some (.slice a n c)):w'.cell? ⟨b,o,none⟩=some (.slice a n c):=by
 obtain⟨v',h1,rfl|⟨s,s',h2,-⟩|⟨k,x,y,h2,-⟩⟩:=h.kin hc
 ·exact h1
 ·cases h2
 ·cases h2
theorem jc.string{S:Nat→Prop}{w w':World}(h:jc S w w'){b o:Nat}{s:ByteArray}(hc:w.cell? ⟨b,o,none⟩=some (.string s)):∃s',w'.cell? ⟨b,o,none⟩=some (.string s'):=by
 obtain⟨v',h1,rfl|⟨s1,s',h2,rfl⟩|⟨k,x,y,h2,-⟩⟩:=h.kin hc
 ·exact⟨s,h1⟩
 ·exact⟨s',h1⟩
 ·cases h2
theorem jc.int{S:Nat→Prop}{w w':World}(h:jc S w w'){b o:Nat}{k:IntKind}{x:Int}(hc:w.cell? ⟨b,o,none⟩=some (.int k x)):∃y,w'.cell? ⟨b,o,none⟩=some (.int k y):=by
 obtain⟨v',h1,rfl|⟨s1,s',h2,rfl⟩|⟨k',x',y,h2,rfl⟩⟩:=h.kin hc
 ·exact⟨x,h1⟩
 ·cases h2
 ·cases h2;exact⟨y,h1⟩
theorem jc.aJ{S:Nat→Prop}{w w':World}(h:jc S w w'){b o n:Nat}(hp:aJ w b o n=true):aJ w' b o n=true:=by
 unfold Go.WW.aJ at hp ⊢
 split at hp
 ·rename_i c t f hb
  obtain⟨c',h1,h2,h3⟩:=h.cells b c t f hb
  rw[h1]
  simpa only[h2]using hp
 ·cases hp
theorem jc.setCell{S:Nat→Prop}{w w':World}(h:jc S w w'){b o:Nat}{v0 v:Value}(hm:S b)(hc:w.cell? ⟨b,o,none⟩=some v0)(hk:oD v0 v):jc S w (w'.setCell ⟨b,o,none⟩ v):=by
 refine⟨h.os,h.tape,h.output,by rw[←h.size];simp[World.setCell],fun k hk'=>(Below.heap_setCell _ _ _ _ (show k≠b by rintro rfl;exact hk' hm)).trans (h.block k hk'),fun k c t f hkb=>?_⟩
 obtain⟨c',h1,h2,h3⟩:=h.cells k c t f hkb
 by_cases e:k=b
 ·subst e
  refine⟨c'.setIfInBounds o v,?_,by simp[h2],fun i u hu=>?_⟩
  ·have hlt:k<w'.heap.size:=(Array.getElem?_eq_some_iff.1 h1).1
   simp only[World.setCell]
   rw[Array.getElem?_modify,if_pos rfl,h1]
   rfl
  ·obtain⟨u',h4,h5⟩:=h3 i u hu
   by_cases ei:o=i
   ·subst ei
    refine⟨v,by rw[Array.getElem?_setIfInBounds,if_pos rfl,if_pos (Array.getElem?_eq_some_iff.1 h4).1],?_⟩
    have:u=v0:=by
     unfold World.cell? at hc
     dsimp only at hc
     rw[hkb]at hc
     simp only[Option.isSome_none,Bool.false_eq_true,if_false]at hc
     rw[hu]at hc;cases hc;rfl
    rw[this];exact hk
   ·exact⟨u',by rw[Array.getElem?_setIfInBounds,if_neg ei];exact h4,h5⟩
 ·exact⟨c',(Below.heap_setCell _ _ _ _ (by simpa using e)).trans h1,h2,h3⟩
theorem BG.get{S:Nat→Prop}{w:World}{a:Option Addr}{l:List aW}(h:BG S w a l)(i:Nat)(hi:i<l.length) :
  ∃b o,∃s:Sl,a=some ⟨b,o,none⟩∧S b∧w.frozen? ⟨b,o+i*5,none⟩=false∧aJ w b (o+i*5) 5=true∧w.cell? ⟨b,o+i*5,none⟩=some (.int .i64 l[i].version)∧w.cell? ⟨b,o+i*5+1,none⟩=some (.slice s.a l[i].keys.length s.cap)∧uM S w s.a l[i].keys:=by
 obtain⟨b,o,ha,hm,hp⟩:=h.2 i hi
 obtain⟨b',o',cs,ha',hr,p,s,hp',rfl,hs⟩:=h.1.2 i hi
 rw[ha]at ha';cases ha'
 rw[List.getElem?_eq_getElem hi]at hp';cases hp'
 have h0:=gp hr 0 (by omega)
 have h1:=gp hr 1 (by omega)
 rw[DR]at h0
 rw[DT]at h1
 exact⟨b,o,s,ha,hm,xR hp _,hp,by simpa using h0,h1,hs.1⟩
theorem uM.get{S:Nat→Prop}{w:World}{a:Option Addr}{l:List Key}(h:uM S w a l)(i:Nat)(hi:i<l.length) :
  ∃b o,∃s:Sl,a=some ⟨b,o,none⟩∧w.cell? ⟨b,o+i*3+2,none⟩=some (.slice s.a l[i].bytes.length s.cap)∧xU S w s.a l[i].bytes:=by
 obtain⟨b,o,cs,ha,hr,p,s,hp',rfl,hs⟩:=h.2 i hi
 rw[List.getElem?_eq_getElem hi]at hp';cases hp'
 have h1:=gp hr 2 (by omega)
 rw[Ha]at h1
 exact⟨b,o,s,ha,h1,hs⟩
theorem xU.get{S:Nat→Prop}{w:World}{a:Option Addr}{l:List UInt8}(h:xU S w a l)(i:Nat)(hi:i<l.length) :
  ∃b o,a=some ⟨b,o,none⟩∧S b∧aJ w b (o+i) 1=true∧w.cell? ⟨b,o+i,none⟩=some (.int .u8 l[i].toNat):=by
 obtain⟨b,o,ha,hm,hp⟩:=h.2 i hi
 obtain⟨b',o',ha',hc⟩:=BytesAt.get h.1 i hi
 rw[ha]at ha';cases ha'
 exact⟨b,o,ha,hm,by simpa using hp,hc⟩
theorem pz.part{S:Nat→Prop}{w:World}{r:aI}{d:Entry}(h:pz S w r d)(i:Nat)(hi:i<d.name.parts.length) :
  ∃b o s,r.parts.a=some ⟨b,o,none⟩∧S b∧aJ w b (o+i) 1=true∧w.cell? ⟨b,o+i,none⟩=some (.string s):=by
 obtain⟨b,o,ha,hm,hp⟩:=h.name i hi
 obtain⟨b',o',ha',hc,-⟩:=iU.get h.at_.name.1 i hi
 rw[ha]at ha';cases ha'
 exact⟨b,o,_,ha,hm,by simpa using hp,hc⟩
theorem pz.alias{S:Nat→Prop}{w:World}{r:aI}{d:Entry}(h:pz S w r d)(i:Nat)(hi:i<d.aliases.length) :
  ∃b o s,r.aliases.a=some ⟨b,o,none⟩∧S b∧aJ w b (o+i*2) 2=true∧w.cell? ⟨b,o+i*2+1,none⟩=some (.string s):=by
 obtain⟨b,o,ha,hm,hp⟩:=h.aliases i hi
 obtain⟨b',o',s,ha',hr,-⟩:=eG.get h.at_.aliases i hi
 rw[ha]at ha';cases ha'
 have h1:=gp hr 1 (by omega)
 rw[G9]at h1
 exact⟨b,o,_,ha,hm,hp,h1⟩
end Go.WW
namespace Go.Proofs.YtaghcadlgbnbdaaGreatDoor
open Go.RowKit Go.WW
theorem O4(S:Nat→Prop)(r:aI)(d:Entry)(w:World)(he0:pz S w r d):Calls Tryz.prog 11 #[.agg (ae r d)] w fun e w'=>e=.returned (.tuple #[])∧But S w w':=by
 have hB:Below w.heap.size w (w.alloc (.cells (ae r d) 32)):=(Below.refl _ w).alloc (Nat.le_refl _) _
 have hx:=World.alloc_heap_new w (.cells (ae r d) 32)
 have he:=he0.later hB
 obtain⟨hc,hf,hr,hlt⟩:=ai hx
 have hc0:=(hc 0).trans (Tt r d)
 have hc2:=(hc 2).trans (Tu r d)
 have hc5:=(hc 5).trans (DU r d)
 clear hc hf hr hx hlt he0
 go_enter Tryz.func11,Tryz.ntmps11
 go_wp2_with fail
 generalize (w.alloc (.cells (ae r d) 32))=W at *
 have HE:=Lib.hid he
 clear he
 have n0:d.name.parts.length≤4294967000:=HE.out.at_.name.1.1
 have n1:d.aliases.length≤4294967000:=HE.out.at_.aliases.1
 have n2:d.keys.length≤4294967000:=HE.out.keys.1.1
 go_loopw [2] (fun i wr=>∃k:Nat,k≤d.name.parts.length∧i=.int .i64 k∧jc S W wr) (fun i _=>d.name.parts.length-(intOf i).toNat)
 case atStart=>exact⟨0,Nat.zero_le _,rfl,jc.refl S W⟩
 case round=>
  obtain⟨k,hk,rfl,hS⟩:=hrel
  have g0:=hS.slice hc0
  by_cases hlt:k<d.name.parts.length
  ·obtain⟨b,o,s,ha,hmb,hp,hcs⟩:=HE.out.part k hlt
   obtain⟨s',h1⟩:=hS.string hcs
   have h2:=xR (hS.aJ hp) (o+k)
   rw[ha]at g0
   have HX:=Lib.hid (hS.setCell (v:=.string ⟨#[63]⟩) hmb hcs (.inr (.inl ⟨_,_,rfl,rfl⟩)))
   go_wp2_with fail
   go_roundw
   case rel=>exact⟨k+1,by omega,by go_num,HX.out⟩
   case measure=>simp[intOf];omega
  go_wp2_with fail
  go_loopw [3] (fun i wr=>∃k:Nat,k≤d.aliases.length∧i=.int .i64 k∧jc S W wr) (fun i _=>d.aliases.length-(intOf i).toNat)
  case atStart=>exact⟨0,Nat.zero_le _,rfl,hS⟩
  case round=>
   clear hS g0 hlt hk
   obtain⟨k,hk,rfl,hS⟩:=hrel
   have g2:=hS.slice hc2
   by_cases hlt:k<d.aliases.length
   ·obtain⟨b,o,s,ha,hmb,hp,hcs⟩:=HE.out.alias k hlt
    obtain⟨s',h1⟩:=hS.string hcs
    have h2:=xR (hS.aJ hp) (o+k*2+1)
    rw[ha]at g2
    have HX:=Lib.hid (hS.setCell (v:=.string ⟨#[63]⟩) hmb hcs (.inr (.inl ⟨_,_,rfl,rfl⟩)))
    go_wp2_with fail
    go_roundw
    case rel=>exact⟨k+1,by omega,by go_num,HX.out⟩
    case measure=>simp[intOf];omega
   go_wp2_with fail
   go_loopw [4] (fun i wr=>∃k:Nat,k≤d.keys.length∧i=.int .i64 k∧jc S W wr) (fun i _=>d.keys.length-(intOf i).toNat)
   case atStart=>exact⟨0,Nat.zero_le _,rfl,hS⟩
   case round=>
    clear hS g2 hlt hk
    obtain⟨k,hk,rfl,hS⟩:=hrel
    have g5:=hS.slice hc5
    by_cases hlt:k<d.keys.length
    ·obtain⟨b,o,s,ha,hmb,-,hp,hv,hks,YD⟩:=HE.out.keys.get k hlt
     have n3:d.keys[k].keys.length≤4294967000:=YD.1
     go_wp2_with fail
     go_loopw [5] (fun i wr=>∃j:Nat,j≤d.keys[k].keys.length∧i=.int .i64 j∧jc S W wr) (fun i _=>d.keys[k].keys.length-(intOf i).toNat)
     case atStart=>exact⟨0,Nat.zero_le _,rfl,hS⟩
     case round=>
      clear hS g5
      obtain⟨j,hj,rfl,hS⟩:=hrel
      have g5:=hS.slice hc5
      rw[ha]at g5
      have g6:=hS.slice hks
      by_cases hjt:j<d.keys[k].keys.length
      ·obtain⟨b2,o2,s2,ha2,hkb,HB⟩:=YD.get j hjt
       have n4:d.keys[k].keys[j].bytes.length≤4294967000:=HB.1.1
       go_wp2_with fail
       go_loopw [6] (fun i wr=>∃t:Nat,t≤d.keys[k].keys[j].bytes.length∧i=.int .i64 t∧jc S W wr) (fun i _=>d.keys[k].keys[j].bytes.length-(intOf i).toNat)
       case atStart=>exact⟨0,Nat.zero_le _,rfl,hS⟩
       case round=>
        clear hS g5 g6
        obtain⟨t,ht,rfl,hS⟩:=hrel
        have g5:=hS.slice hc5
        rw[ha]at g5
        have g6:=hS.slice hks
        rw[ha2]at g6
        have g7:=hS.slice hkb
        by_cases htt:t<d.keys[k].keys[j].bytes.length
        ·obtain⟨b3,o3,uJ,Ir,hp3,hcb⟩:=HB.get t htt
         rw[uJ]at g7
         obtain⟨y,h1⟩:=hS.int hcb
         have h2:=xR (hS.aJ hp3) (o3+t)
         have HX:=fun v:Int=>Lib.hid (hS.setCell (v:=.int .u8 v) Ir hcb (.inr (.inr ⟨_,_,_,rfl,rfl⟩)))
         go_wp2_with fail
         go_roundw
         case rel=>exact⟨t+1,by omega,by go_num,(HX _).out⟩
         case measure=>simp[intOf];omega
        ·go_wp2_with fail
         go_roundw
         case rel=>exact⟨j+1,by omega,by go_num,hS⟩
         case measure=>simp[intOf];omega
      ·obtain⟨y,h1⟩:=hS.int hv
       have h2:=xR (hS.aJ hp) (o+k*5)
       have HX:=Lib.hid (hS.setCell (v:=.int .i64 0) hmb hv (.inr (.inr ⟨_,_,_,rfl,rfl⟩)))
       go_wp2_with fail
       go_roundw
       case rel=>exact⟨k+1,by omega,by go_num,HX.out⟩
       case measure=>simp[intOf];omega
    ·go_wp2_with fail
     go_end0
     exact⟨rfl,(But.of_below hB).trans hS.but⟩
end Go.Proofs.YtaghcadlgbnbdaaGreatDoor
namespace Go.WW
open Go.RowKit
theorem akN{w:World}{l:List aW}(i:Nat)(cs:Array Value)(h:∃p s,l[i]?=some p∧cs=aV s p∧jG w s p):cs.size=5∧dD cs=true:=by
 obtain⟨p,s,_,rfl,_⟩:=h;exact⟨Tm s p,Tn s p⟩
theorem akO{w:World}{l:List Key}(i:Nat)(cs:Array Value)(h:∃p s,l[i]?=some p∧cs=bY s p∧kV w s p):cs.size=3∧dD cs=true:=by
 obtain⟨p,s,_,rfl,_⟩:=h;exact⟨Ti s p,Tj s p⟩
theorem akP(r:aI)(d:Entry)(s:Sl):(ae r d).setIfInBounds 0 (.slice s.a d.name.parts.length s.cap)=ae {r with parts:=s} d:=by kernel_rfl
theorem akQ(r:aI)(d:Entry)(s:Sl):(ae r d).setIfInBounds 2 (.slice s.a d.aliases.length s.cap)=ae {r with aliases:=s} d:=by kernel_rfl
theorem akR(r:aI)(d:Entry)(s:Sl):(ae r d).setIfInBounds 5 (.slice s.a d.keys.length s.cap)=ae {r with keys:=s} d:=by kernel_rfl
theorem akS(t:Sl)(k:aW)(s:Sl):(aV t k).setIfInBounds 1 (.slice s.a k.keys.length s.cap)=aV s k:=by kernel_rfl
theorem akT(t:Sl)(k:Key)(s:Sl):(bY t k).setIfInBounds 2 (.slice s.a k.bytes.length s.cap)=bY s k:=by kernel_rfl
structure O5(M:World→Prop)(w:World):Prop where
 out:M w
theorem BH{ι:Type}{c:Code}{P:Program}{Q:Exit→Act→World→Prop}{a:Act}{w:World}(M:ι→World→Prop)(F:ι→Act)
  (h1:c.wp P (fun e a' w'=>e=.normal∧∃i,a'=F i∧O5 (M i) w') a w) (h2:∀i w',M i w'→Q .normal (F i) w'):c.wp P Q a w:=by
 refine wp_mono h1 ?_
 rintro e a' w' ⟨rfl,i,rfl,h⟩
 exact h2 i w' h.out
theorem YE{c:Code}{P:Program}{Q:Exit→Act→World→Prop}{a:Act}{w:World}(M:World→Prop)(F:Act)
  (h1:c.wp P (fun e a' w'=>e=.normal∧a'=F∧O5 M w') a w) (h2:∀w',M w'→Q .normal F w'):c.wp P Q a w:=by
 refine wp_mono h1 ?_
 rintro e a' w' ⟨rfl,rfl,h⟩
 exact h2 w' h.out
theorem EZ{W w w':World}{E:TypeId}{k:Nat}{s:Sl}{rows:List (Array Value)}(h:Own w W.heap.size E k s rows)(hb:Below W.heap.size W w)(hg:w.grownBy w' s.blk):Below W.heap.size W w':=hb.grown hg hb.size (fun _ e=>(h.base e).1)
theorem Own.but{S:Nat→Prop}{w w':World}{base k:Nat}{e:TypeId}{s:Sl}{rows:List (Array Value)}(h:Own w base e k s rows)(hb:But S w w')(hn:∀g,s.blk=some g→¬S g):Own w' base e k s rows:=
 h.kept fun g hg=>hb.block g (h.base hg).2 (hn g hg)
theorem O6{V w3:World}{bx o k:Nat}{T tb:TypeId}{s:Sl}{rows:List (Array Value)}{c:Array Value}(h:Own w3 V.heap.size T k s ([]++rows))(hb3:Below V.heap.size V w3)(hbx:V.heap[bx]?=some (.cells c tb))(v:Value) :
  Own (w3.setCell ⟨bx,o,none⟩ v) V.heap.size T k s rows∧(w3.setCell ⟨bx,o,none⟩ v).heap[bx]?=some (.cells (c.setIfInBounds o v) tb)∧But (·=bx) V (w3.setCell ⟨bx,o,none⟩ v):=by
 have hlt:=(Array.getElem?_eq_some_iff.1 hbx).1
 rw[List.nil_append]at h
 refine⟨h.kept fun g hg=>Below.heap_setCell _ _ _ _ ?_,cZ v (aA hb3 hbx),rY (But.of_below hb3) (.inl rfl)⟩
 have:=(h.base hg).1
 show g≠bx
 omega
theorem akU{k:Nat}(rows:List (Array Value))(hs:∀r∈rows,r.size=k)(i j:Nat)(hi:i<rows.length)(hj:j<k)(v:Value):flat (rows.set i (rows[i].setIfInBounds j v))=(flat rows).set (i*k+j) v:=by
 have hs':∀r∈rows.set i (rows[i].setIfInBounds j v),r.size=k:=fun r hr=>by
  rcases List.mem_or_eq_of_mem_set hr with h|rfl
  ·exact hs r h
  ·rw[Array.size_setIfInBounds];exact hs _ (List.getElem_mem hi)
 have hk:0<k:=by omega
 have hl1:(flat (rows.set i (rows[i].setIfInBounds j v))).length=rows.length*k:=by rw[flat_length hs',List.length_set]
 have hl2:(flat rows).length=rows.length*k:=flat_length hs
 refine List.ext_getElem? fun p=>?_
 by_cases hp:p<rows.length*k
 ·have hpi:p / k<rows.length:=by rw[Nat.div_lt_iff_lt_mul hk];exact hp
  have O7:p % k<k:=Nat.mod_lt _ hk
  have e:p / k*k+p % k=p:=Nat.div_add_mod' p k
  have g1:=flat_get hs' (p / k) (p % k) (by simpa using hpi) O7
  have g2:=flat_get hs (p / k) (p % k) hpi O7
  rw[e]at g1 g2
  rw[g1,List.getElem?_set,g2,List.getElem_set]
  by_cases hpe:i=p / k
  ·subst hpe
   rw[if_pos rfl]
   have hsz:=hs _ (List.getElem_mem hpi)
   by_cases hje:j=p % k
   ·have:p / k*k+j=p:=by rw[hje];exact e
    rw[if_pos this,if_pos (by rw[hl2];omega),hje,Array.getElem?_setIfInBounds,if_pos rfl,if_pos (by rw[hsz];exact O7)]
   ·have:¬p / k*k+j=p:=fun h=>hje (by omega)
    rw[if_neg this,Array.getElem?_setIfInBounds,if_neg hje]
  ·rw[if_neg hpe]
   have:¬i*k+j=p:=fun h=>hpe (by
    rw[←h,Nat.mul_comm,Nat.mul_add_div hk,Nat.div_eq_of_lt hj,Nat.add_zero])
   rw[if_neg this]
 ·rw[List.getElem?_eq_none (by omega),List.getElem?_eq_none (by rw[List.length_set];omega)]
theorem Own.setCell{w:World}{base k:Nat}{e:TypeId}{s:Sl}{rows:List (Array Value)}(h:Own w base e k s rows){g:Nat}(hg:s.a=some ⟨g,0,none⟩)(i j:Nat)(hi:i<rows.length)(hj:j<k)(v:Value) :
  Own (w.setCell ⟨g,i*k+j,none⟩ v) base e k s (rows.set i (rows[i].setIfInBounds j v)):=by
 have hs':∀r∈rows.set i (rows[i].setIfInBounds j v),r.size=k:=fun r hr=>by
  rcases List.mem_or_eq_of_mem_set hr with h1|rfl
  ·exact h.size r h1
  ·rw[Array.size_setIfInBounds];exact h.size _ (List.getElem_mem hi)
 refine⟨⟨by rw[flat_length hs'],?_⟩,hs'⟩
 rcases h.own.2 with⟨_,hn⟩|⟨g',cap,cur,hv,hb,hh,hle,hm,hsz,ht⟩
 ·omega
 ·have e1:g'=g:=by
   have:s.a=some ⟨g',0,none⟩:=by injection hv
   rw[hg]at this;cases this;rfl
  subst e1
  have hcap:s.cap=cap:=by injection hv
  refine .inr ⟨g',cap,cur.setIfInBounds (i*k+j) v,by rw[List.length_set,hg,hcap],hb,cZ v hh,by rw[List.length_set];exact hle,hm,by simp[hsz],?_⟩
  rw[List.length_set,akU rows h.size i j hi hj,←ht]
  have h1:i*k+j<rows.length*k:=by
   have:i*k+k≤rows.length*k:=by rw[←Nat.succ_mul];exact Nat.mul_le_mul_right _ hi
   omega
  rw[Array.toList_setIfInBounds,List.take_set]
theorem Own.at_{w:World}{base k:Nat}{e:TypeId}{s:Sl}{rows:List (Array Value)}(h:Own w base e k s rows)(i:Nat)(hi:i<rows.length) :
  ∃g,s.a=some ⟨g,0,none⟩∧s.blk=some g∧g<w.heap.size∧row? w g (i*k) k=some rows[i]∧aJ w g (i*k) k=true:=by
 obtain⟨g,h1,h2,h3⟩:=h.row i hi
 rw[Nat.zero_add]at h3
 refine⟨g,h1,h2,(h.base h2).2,h3,?_⟩
 obtain⟨b',o',e',hb',hp⟩:=iJ.dX h rfl i hi
 rw[h1]at e';cases e'
 simpa using hp
theorem mg.dX{S:Nat→Prop}{w:World}{base k:Nat}{e:TypeId}{s:Sl}{rows:List (Array Value)}(h:Own w base e k s rows){n:Nat}(hn:rows.length=n)(hS:∀g,s.blk=some g→S g):mg S w s.a n k:=by
 subst hn
 intro i hi
 obtain⟨g,h1,h2,h3,h4,h5⟩:=h.at_ i hi
 exact⟨g,0,h1,hS g h2,by simpa using h5⟩
section
variable {P:Program} {ops:Array Oper} {S:World→Prop} {st:Oper→Bool} {Q:Act→World→Prop}
theorem akV{m:Array (List Nat)}(hok:tV st ops m){Q':Exit→Act→World→Prop}{z:Oper}{N:Nat}(hN:ops.size=N+1)(hz:ops[N]?=some z)(hzg:z.guard=none)(O1:∀i,i<N→(∃e∈z.after,Region.binds .any e=true∧e.on=i)∨∃e∈z.after,Region.binds .any e=true∧∃o',ops[e.on]?=some o'∧∃e'∈o'.after,Region.binds .any e'=true∧e'.on=i)
  (hQ:∀a w,Q a w→z.wp P a w (fun a' w'=>Q' .normal a' w') never) :
  ∀(n:Nat) (L:List Nat) (listed:Array Bool) (a:Act) (w:World),L.length=n→L.Pairwise (· < ·)→listed.size=ops.size→listed.getD N true=false→(∀j,j∈L↔j<N∧listed.getD j true=false)→
   (∀k o,ops[k]?=some o→listed.getD k false=true→∀e∈o.after,Region.binds .any e=true→listed.getD e.on false=true)→
   S w→aF P ops st S Q (L.filterMap (ops[·]?)) a w→wpAny P .any ops Q' (n+1) listed a w:=by
 intro n
 induction n with
 |zero=>
  intro L listed a w hn _ hsz zF hL hdown _ h
  have:L=[]:=List.eq_nil_of_length_eq_zero hn
  subst this
  have hls:∀i,i<N→listed.getD i false=true:=fun i hi=>by
   have h2:listed.getD i true≠false:=fun hf=>by have:=(hL i).2 ⟨hi,hf⟩;cases this
   have hes:i<listed.size:=by omega
   simp[hes]at h2 ⊢;exact h2
  refine⟨fun hr=>?_,fun i hi=>?_⟩
  ·have:N∈Region.ready .any ops listed:=mem_ready.2 ⟨zF,z,hz,fun e he hb=>hls _ (by have:=hok.back N z hz e he hb;exact this)⟩
   rw[hr]at this;cases this
  ·obtain⟨h0,o,ho,_⟩:=mem_ready.1 hi
   have his:i<ops.size:=(Array.getElem?_eq_some_iff.1 ho).1
   have hiN:i=N:=Classical.byContradiction fun hne=>by
    have:=(hL i).2 ⟨by omega,h0⟩;cases this
   subst hiN
   rw[hz]at ho;cases ho
   have hend:∀a' w',Q' .normal a' w'→wpAny P .any ops Q' 0 (listed.setIfInBounds i true) a' w':=fun a' w' hq=>by
    refine⟨?_,hq⟩
    cases hr:Region.ready .any ops (listed.setIfInBounds i true)with
    |nil=>rfl
    |cons k r=>
     have hk:k∈Region.ready .any ops (listed.setIfInBounds i true):=by rw[hr];simp
     obtain⟨h1,o',ho',_⟩:=mem_ready.1 hk
     have hks:k<ops.size:=(Array.getElem?_eq_some_iff.1 ho').1
     exfalso
     by_cases hki:k=i
     ·subst hki
      have:k<listed.size:=by omega
      simp[this]at h1
     ·rw[getD_set_ne true (Ne.symm hki)]at h1
      have:=(hL k).2 ⟨by omega,h1⟩;cases this
   unfold wpOp
   simp only[hz,Region.wanted,hzg,if_true]
   exact .inl (tK (Oper.wp_mono (fun a' w' hh=>hend a' w' hh) (hQ _ _ h)))
 |succ n ih=>
  intro L listed a w hn hsort hsz zF hL hdown hS h
  refine⟨fun hr=>?_,fun i hi=>?_⟩
  ·exfalso
   cases L with
   |nil=>simp at hn
   |cons j L=>
    obtain⟨hj,hjl⟩:=(hL j).1 (by simp)
    have hj':j<ops.size:=by omega
    have hoj:ops[j]?=some ops[j]:=by simp[hj']
    have:j∈Region.ready .any ops listed:=by
     refine mem_ready.2 ⟨hjl,_,hoj,fun e he hb=>?_⟩
     have hlt:=hok.back j _ hoj e he hb
     have hnot:e.on∉j::L:=by
      intro hmem
      rcases List.mem_cons.1 hmem with h1|h1
      ·omega
      ·have:=(List.pairwise_cons.1 hsort).1 _ h1;omega
     have h2:listed.getD e.on true≠false:=fun hf=>hnot ((hL e.on).2 ⟨by omega,hf⟩)
     have hes:e.on<listed.size:=by omega
     simp[hes]at h2 ⊢;exact h2
    rw[hr]at this;cases this
  ·obtain⟨h0,o,ho,hall⟩:=mem_ready.1 hi
   have his:i<ops.size:=(Array.getElem?_eq_some_iff.1 ho).1
   have hiN:i≠N:=fun e=>by
    subst e
    rw[hz]at ho;cases ho
    cases L with
    |nil=>simp at hn
    |cons j L=>
     obtain⟨hj,hjl⟩:=(hL j).1 (by simp)
     rcases O1 j hj with⟨e,he,hb,rfl⟩|⟨e,he,hb,o',ho',e',he',hb',rfl⟩
     ·have:=hall e he hb
      rw[ve this]at hjl;cases hjl
     ·have:=hdown e.on o' ho' (hall e he hb) e' he' hb'
      rw[ve this]at hjl;cases hjl
   have hiL:i∈L:=(hL i).2 ⟨by omega,h0⟩
   obtain⟨L1,L2,rfl⟩:=List.append_of_mem hiL
   have dQ:=List.pairwise_append.1 hsort
   have hlt1:∀x∈L1,x<i:=fun x hx=>dQ.2.2 x hx i (by simp)
   have hgt2:∀x∈L2,i<x:=fun x hx=>(List.pairwise_cons.1 dQ.2.1).1 x hx
   rw[List.filterMap_append,List.filterMap_cons_some ho]at h
   have cO:=nN (P:=P) (ops:=ops) (S:=S) (st:=st) (Q:=Q) (Region.noSelect_spec hok.kU i o · · ho) (L1.filterMap (ops[·]?)) (fun x hx=>by
    obtain⟨k,hk,hox⟩:=List.mem_filterMap.1 hx
    have hkl:=((hL k).1 (by simp[hk])).2
    have hnl:¬listed.getD k false=true:=fun hf=>by rw[ve hf]at hkl;cases hkl
    refine⟨(Region.noSelect_spec hok.kU k x · · hox),?_⟩
    rcases hok.pair i o ho k (hlt1 k hk) x hox with⟨e,he,hb,rfl⟩|⟨hap,hor⟩
    ·exact absurd (hall e he hb) hnl
    ·refine⟨hap,?_⟩
     rcases hor with h1|h1|h1
     ·exact .inl h1
     ·exact .inr h1
     ·exact absurd (Au hok hdown i o ho hall k h1) hnl) a w hS h
   have hrest:∀a' w',S w'→aF P ops st S Q (L1.filterMap (ops[·]?)++L2.filterMap (ops[·]?)) a' w'→wpAny P .any ops Q' (n+1) (listed.setIfInBounds i true) a' w':=by
    intro a' w' hS' hh
    rw[←List.filterMap_append]at hh
    refine ih (L1++L2) (listed.setIfInBounds i true) a' w' ?_ ?_ (by simpa using hsz) (by rw[getD_set_ne true hiN];exact zF) ?_ ?_ hS' hh
    ·simp at hn ⊢;omega
    ·exact List.pairwise_append.2 ⟨dQ.1,(List.pairwise_cons.1 dQ.2.1).2,fun x hx y hy=>dQ.2.2 x hx y (by simp[hy])⟩
    ·intro j
     by_cases hji:j=i
     ·subst hji
      constructor
      ·intro hm
       exfalso
       rcases List.mem_append.1 hm with h1|h1
       ·have:=hlt1 _ h1;omega
       ·have:=hgt2 _ h1;omega
      ·rintro⟨_,hf⟩
       have:j<listed.size:=by omega
       simp[this]at hf
     ·rw[getD_set_ne true (Ne.symm hji),←hL j]
      simp[hji]
    ·intro k ok hk hkl e he hb
     by_cases hki:k=i
     ·subst hki
      rw[ho]at hk;cases hk
      exact getD_set_true (hall e he hb)
     ·rw[getD_set_ne false (Ne.symm hki)]at hkl
      exact getD_set_true (hdown k ok hk hkl e he hb)
   unfold wpOp
   simp only[ho]
   rw[bu]at cO
   split
   ·rename_i hw
    rw[if_pos hw]at cO
    refine .inl ?_
    by_cases hs:st o=true
    ·rw[if_pos hs]at cO
     obtain⟨v,hv,hh⟩:=cO
     unfold Oper.wp
     rw[hv w hS]
     exact hrest _ _ hS hh
    ·rw[if_neg hs]at cO
     exact tK (Oper.wp_mono (fun a' w' hh=>hrest a' w' hh.1 hh.2) cO)
   ·rename_i hw
    rw[if_neg hw]at cO
    exact hrest _ _ hS cO
end
def YF(ops:List Oper):Bool:=
 match ops.getLast? with
 |some z=>z.guard.isNone&&(List.range (ops.length-1)).all fun i=>z.after.toList.any fun e=>Region.binds .any e&&(e.on == i || (match ops[e.on]? with|some o=>o.after.toList.any fun e'=>Region.binds .any e'&&e'.on == i|none=>false))
 |none=>false
theorem YG{P:Program}{id:Nat}{Q':Exit→Act→World→Prop}{a:Act}{w:World}{l:List Oper}(S:World→Prop)(st:Oper→Bool)(hm:P.follows .mixedOrders=true)(hB:lJ st l.toArray=true)(hZ:YF l=true)
  (hS:S w.drew) (h:aF P l.toArray st S (vZ P l fun a' w'=>Q' .normal a' w') l.dropLast a w.drew):(Code.region id l.toArray true).wp P Q' a w:=by
 refine wp_region_any hm ?_
 unfold YF at hZ
 cases hg:l.getLast? with
 |none=>rw[hg]at hZ;cases hZ
 |some z=>
  rw[hg]at hZ
  simp only[Bool.and_eq_true,List.all_eq_true,List.mem_range]at hZ
  obtain⟨hz1,hz2⟩:=hZ
  have hne:l≠[]:=fun e=>by rw[e]at hg;cases hg
  have hlen:l.length=l.length-1+1:=by have:=List.length_pos_iff.2 hne;omega
  have hzi:l.toArray[l.length-1]?=some z:=by
   rw[List.getLast?_eq_getElem?]at hg;simpa using hg
  have hfm:(List.range (l.length-1)).filterMap (l.toArray[·]?)=l.dropLast:=by
   rw[List.dropLast_eq_take]
   have:∀n,(List.range n).filterMap (fun i=>l.toArray[i]?)=l.take n:=by
    intro n
    induction n with
    |zero=>simp
    |succ n ih=>
     rw[List.range_succ,List.filterMap_append,ih]
     by_cases hn:n<l.length
     ·rw[List.take_succ_eq_append_getElem hn];simp[hn]
     ·simp[hn,List.take_of_length_le (show l.length≤n by omega),List.take_of_length_le (show l.length≤n+1 by omega)]
   exact this _
  have:=akV (P:=P) (S:=S) (Q:=vZ P l fun a' w'=>Q' .normal a' w') (Ar hB) (Q':=Q') (z:=z) (N:=l.length-1) (by simpa using hlen) hzi (by simpa using hz1) (fun i hi=>by
    have:=hz2 i hi
    simp only[List.any_eq_true,Bool.and_eq_true,Bool.or_eq_true,beq_iff_eq]at this
    obtain⟨e,he,hb,h1|h1⟩:=this
    ·exact .inl ⟨e,by simpa using he,hb,h1⟩
    ·cases O8:l[e.on]? with
     |none=>rw[O8]at h1;cases h1
     |some o=>
      rw[O8]at h1
      simp only[List.any_eq_true,Bool.and_eq_true,beq_iff_eq]at h1
      obtain⟨e',he',hb',h2⟩:=h1
      exact .inr ⟨e,by simpa using he,hb,o,by simpa using O8,e',by simpa using he',hb',h2⟩) (fun a' w' hq=>by unfold vZ at hq;rw[hg]at hq;exact hq) (l.length-1) (List.range (l.length-1)) (Array.replicate l.toArray.size false) a w.drew
   (by simp) List.pairwise_lt_range (by simp) (by
     have:l.length-1<l.length:=by omega
     simp[this]) (by intro j;simp;intro h1;simp[show j<l.length by omega]) (by intro k o hk hkl;exfalso;rw[Array.getD_eq_getD_getElem?,Array.getElem?_replicate]at hkl;split at hkl<;>simp at hkl) hS (by rw[hfm];exact h)
  rw[←hlen]at this
  simpa using this
end Go.WW
