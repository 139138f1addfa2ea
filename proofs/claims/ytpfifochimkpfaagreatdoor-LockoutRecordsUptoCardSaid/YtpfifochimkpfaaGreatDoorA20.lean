/- A part of the proof. -/
import Derived.Test.YtpfifochimkpfaaGreatDoorA19
import Derived.Test.YtpfifochimkpfaaGreatDoorA08
import Derived.Test.YtpfifochimkpfaaGreatDoorA02
import Derived.Test.YtpfifochimkpfaaGreatDoorA17
set_option maxRecDepth 100000
set_option maxHeartbeats 2000000
namespace Go.WW
open Go.RowKit
theorem Vj{α β:Type}(f:α→β)(l:List α)(i:Nat):(l.eraseIdx i).map f=(l.map f).eraseIdx i:=by
 simp only[List.eraseIdx_eq_take_drop_succ,List.map_append,List.map_take,List.map_drop]
def gY(S:Nat→Prop)(w:World)(Φ:World→Prop):Prop:=∀y,But S w y→Φ y
theorem gY.on{S:Nat→Prop}{w w':World}{Φ:World→Prop}(h:gY S w Φ)(hb:But S w w'):gY S w' Φ:=fun y hy=>h y (hb.trans hy)
theorem gY.later{S:Nat→Prop}{w w':World}{Φ:World→Prop}(h:gY S w Φ)(hb:Below w.heap.size w w'):gY S w' Φ:=h.on (But.of_below hb)
theorem gY.out{S:Nat→Prop}{w:World}{Φ:World→Prop}(h:gY S w Φ):Φ w:=h w (But.refl _ _)
theorem gY.L8{S:Nat→Prop}{w:World}{base:Nat}{Φ:World→Prop}(h:bu w (fresh base w) Φ)(hS:∀k,S k→k<base):gY S w Φ:=
 fun y hy=>h y fun k hk=>hy.block k hk.2 fun hs=>by have:=hS k hs;have:=hk.1;omega
structure gG(S:Nat→Prop)(es ps:Sl)(D:Db)(X:List EE)(w:World):Prop where
 dS:gY S w (fun y=>qj y es.a X)
 dJ:gY S w (fun y=>gQ y ps.a D.aF)
 cap:D.aF.length≤ps.cap
theorem gG.on{S:Nat→Prop}{es ps:Sl}{D:Db}{X:List EE}{w w':World}(h:gG S es ps D X w)(hb:But S w w'):gG S es ps D X w':=⟨h.dS.on hb,h.dJ.on hb,h.cap⟩
theorem gG.later{S:Nat→Prop}{es ps:Sl}{D:Db}{X:List EE}{w w':World}(h:gG S es ps D X w)(hb:Below w.heap.size w w'):gG S es ps D X w':=h.on (But.of_below hb)
inductive ql(D:Db)(q:ah):Int→Db→Prop where
 |bad (hv:dA q=false):ql D q 2 D
 |new (hv:dA q=true) (hn:D.aF.any (fun x=>decide (x.name=q.name))=false):ql D q 0 {D with aF:=fE q (-1) 0 false D.aF,aN:=D.aN+1}
 |old (hv:dA q=true) (i:Nat) (hi:i<D.aF.length) (hn:D.aF[i].name=q.name):ql D q 0 {D with aF:=fE q (i:Int) 0 false D.aF,aN:=D.aN+1}
inductive pz(D:Db)(X:List EE)(r:aK)(d:Entry):Int→Db→List EE→Prop where
 |bad (hv:bI d=false∨¬d.name.aJ=D.aJ):pz D X r d 2 D X
 |L9 (hv:bI d=true) (hre:d.name.aJ=D.aJ) (hpe:¬d.aP=⟨#[]⟩) (hn:D.aF.any (fun x=>decide (x.name=d.aP))=false):pz D X r d 9 D X
 |busy (hv:bI d=true) (hre:d.name.aJ=D.aJ) (hp:jK D.aF d) (hx:∃x∈X.map (·.2),jC x d=true∧textOf x.name≠textOf d.name):pz D X r d 11 D X
 |put (hv:bI d=true) (hre:d.name.aJ=D.aJ) (hp:jK D.aF d) (hx:∀x∈X.map (·.2),jC x d=true→textOf x.name=textOf d.name) (X1:List EE) (hs:X1.Sublist X) (h1:X1.map (·.2)=kX (X.map (·.2)) (textOf d.name)) :
   pz D X r d 0 {D with entries:=(kH fB eH (r,d) X1).map (·.2),aN:=D.aN+1} (kH fB eH (r,d) X1)
structure fO(D:Db)(X:List EE)(NL:List (ByteArray×ByteArray))(E:List EE)(P:List ah):Prop where
 eq:D.entries=X.map (·.2)
 names:vS NL (E.map (·.2))
 good:iR (E.map (·.2))
 perm:(E.map (·.2)).Perm (X.map (·.2))
 sorted:Sorted fB eH X
 dJ:kY P D.aF
 has:∀x∈X,jK D.aF x.2
theorem fO.rE{D:Db}{X:List EE}{NL:List (ByteArray×ByteArray)}{E:List EE}{P:List ah}(h:fO D X NL E P):iR (X.map (·.2)):=h.good.perm h.perm.symm
theorem jK.mono{L L':List ah}{d:Entry}(h:jK L d)(hL:∀x∈L,∃y∈L',y.name=x.name):jK L' d:=by
 rcases h with h|h
 ·exact .inl h
 ·obtain⟨x,hx,e⟩:=List.any_eq_true.1 h
  obtain⟨y,hy,e'⟩:=hL x hx
  exact .inr (List.any_eq_true.2 ⟨y,hy,by simpa[e']using e⟩)
theorem ahi{D D':Db}{q:ah}{no:Int}(h:ql D q no D')(hn:(D.aF.map (·.name)).Nodup):∀x∈D.aF,∃y∈D'.aF,y.name=x.name:=by
 intro x hx
 cases h with
 |bad hv=>exact⟨x,hx,rfl⟩
 |new hv hn=>
  have hp:=zk q (-1) D.aF 0 false
  rw[LW]at hp
  exact⟨x,hp.mem_iff.2 (by simp[hx]),rfl⟩
 |old hv i hi hnm=>
  have hp:=zk q (i:Int) D.aF 0 false
  have hr:=LX D.aF 0 i
  rw[Nat.zero_add]at hr
  rw[hr,U9 (·.name) hn hi,hnm]at hp
  by_cases e:x.name=q.name
  ·exact⟨q,hp.mem_iff.2 (by simp),e.symm⟩
  ·exact⟨x,hp.mem_iff.2 (by simp[hx,e]),rfl⟩
theorem Mc{D D':Db}{q:ah}{no:Int}(h:ql D q no D'):D'.entries=D.entries∧D'.aJ=D.aJ∧D.aN≤D'.aN∧D'.aN≤D.aN+1∧D'.aF.length≤D.aF.length+1:=by
 cases h with
 |bad hv=>exact⟨rfl,rfl,by omega,by omega,by omega⟩
 |new hv hn=>exact⟨rfl,rfl,by simp;omega,by simp,GK _ _ _ _ _⟩
 |old hv i hi hnm=>exact⟨rfl,rfl,by simp;omega,by simp,GK _ _ _ _ _⟩
theorem Vk{D D':Db}{X X':List EE}{r:aK}{d:Entry}{no:Int}(h:pz D X r d no D' X'):D'.aF=D.aF∧D'.aJ=D.aJ∧D.aN≤D'.aN∧D'.aN≤D.aN+1∧X'.length≤X.length+1∧(D.entries=X.map (·.2)→D'.entries=X'.map (·.2))∧(∀x∈X',x=(r,d)∨x∈X):=by
 cases h with
 |bad hv=>exact⟨rfl,rfl,by omega,by omega,by omega,id,fun x hx=>.inr hx⟩
 |L9 hv hre hpe hn=>exact⟨rfl,rfl,by omega,by omega,by omega,id,fun x hx=>.inr hx⟩
 |busy hv hre hp hx=>exact⟨rfl,rfl,by omega,by omega,by omega,id,fun x hx=>.inr hx⟩
 |put hv hre hp hx X1 hs h1=>
  refine⟨rfl,rfl,by simp;omega,by simp,?_,fun _=>rfl,fun x hx=>?_⟩
  ·rw[abx];have:=hs.length_le;omega
  ·rcases List.mem_cons.1 ((wR eH (r,d) X1).mem_iff.1 hx)with e|hx
   ·exact .inl e
   ·exact .inr (hs.mem hx)
theorem fO.put{D:Db}{X:List EE}{NL:List (ByteArray×ByteArray)}{E:List EE}{P:List ah}{r r':aK}{d:Entry}(h:fO D X NL E P)(hv:bI d=true)(hp:jK D.aF d)(hx:∀x∈X.map (·.2),jC x d=true→textOf x.name=textOf d.name)(X1:List EE)(hs:X1.Sublist X)(h1:X1.map (·.2)=kX (X.map (·.2)) (textOf d.name))
  {N1:List (ByteArray×Value)} {E1:List EE} (hR:vN (ed NL) E (textOf d.name) N1 E1) :
  tY NL (textOf d.name) (jq d)∧∃iL,rC N1 (textOf d.name) (jq d)=ed iL∧fO {D with entries:=(kH fB eH (r,d) X1).map (·.2),aN:=D.aN+1} (kH fB eH (r,d) X1) iL (E1++[(r',d)]) P:=by
 have hf:tY NL (textOf d.name) (jq d):=LU.2 fun hb=>by
  obtain⟨x,lW,hxb,qi⟩:=(U5 h.names h.good hv).1 hb
  exact qi (hx x (h.perm.mem_iff.1 lW) hxb)
 have hE1:∃zi,N1=ed zi∧E1.map (·.2)=kX (E.map (·.2)) (textOf d.name)∧vS zi (E1.map (·.2)):=by
  rcases hR with⟨x,lW,qi,rfl,rfl⟩|⟨hno,rfl,rfl⟩
  ·have e1:(tX E (textOf d.name)).map (·.2)=kX (E.map (·.2)) (textOf d.name):=by
    unfold tX kX
    rw[List.filter_map];rfl
   refine⟨xC NL (jq x.2),UW _ _,e1,?_⟩
   rw[e1,←qi]
   exact U0 h.names h.good (List.mem_map.2 ⟨x,lW,rfl⟩)
  ·refine⟨NL,rfl,(UZ fun x hx'=>?_).symm,h.names⟩
   obtain⟨y,hy,rfl⟩:=List.mem_map.1 hx'
   exact hno y hy
 obtain⟨zi,rfl,e1,hn1⟩:=hE1
 have hm:∀x∈E1.map (·.2),x∈E.map (·.2)∧textOf x.name≠textOf d.name:=fun x hx'=>by rw[e1]at hx';exact GN.1 hx'
 refine⟨hf,zh zi (textOf d.name) (jq d),UU _ _ _,rfl,?_,?_,?_,?_,h.dJ,fun x hx'=>?_⟩
 ·rw[List.map_append]
  exact agY h.names hn1 hm hf
 ·rw[List.map_append]
  refine agZ h.names h.good hv hm ?_ hf
  rw[e1]
  exact(List.filter_sublist.map _).nodup h.good.nodup
 ·rw[List.map_append,e1]
  refine((h.perm.filter _).append_right [d]).trans ?_
  show(kX (X.map (·.2)) (textOf d.name)++[d]).Perm _
  rw[←h1]
  have hi:=(wR (c:=fB) eH (r,d) X1).map (fun x:EE=>x.2)
  rw[List.map_cons]at hi
  exact(List.perm_append_singleton _ _).trans hi.symm
 ·refine PW eH Ju (r,d) X1 (h.sorted.sublist hs) fun x hx' e=>?_
  have:x.2∈kX (X.map (·.2)) (textOf d.name):=by rw[←h1];exact List.mem_map.2 ⟨x,hx',rfl⟩
  exact(GN.1 this).2 (congrArg textOf e)
 ·rcases List.mem_cons.1 ((wR eH (r,d) X1).mem_iff.1 hx')with rfl|hx'
  ·exact hp
  ·exact h.has x (hs.mem hx')
end Go.WW
namespace Go.Proofs.YtpfifochimkpfaaGreatDoor
open Go.RowKit Go.WW
structure jW(S:Nat→Prop)(b n e p:Nat)(re:ByteArray)(s:Int)(NL:List (ByteArray×ByteArray))(E:List EE)(P:List ah)(w:World):Prop where
 db:dG w b n e p re s (ed NL) E P
 keep:∀x∈E,lG S w x
 sub:∀k,aW b n e p k→S k
theorem jW.later{S:Nat→Prop}{b n e p:Nat}{re:ByteArray}{s:Int}{NL:List (ByteArray×ByteArray)}{E:List EE}{P:List ah}{w w':World}(h:jW S b n e p re s NL E P w)(hb:Below w.heap.size w w'):jW S b n e p re s NL E P w':=⟨h.db.later hb,fun x hx=>(h.keep x hx).on (But.of_below hb),h.sub⟩
theorem jW.lt{S:Nat→Prop}{b n e p:Nat}{re:ByteArray}{s:Int}{NL:List (ByteArray×ByteArray)}{E:List EE}{P:List ah}{w:World}(h:jW S b n e p re s NL E P w):∀k,aW b n e p k→k<w.heap.size:=fun k hk=>Classical.byContradiction fun hn=>nN h.db k (by omega) hk
theorem He(S:Nat→Prop)(es ps:Sl)(D:Db)(X:List EE)(q:ah)(w:World)(h:gG S es ps D X w)(hS:∀k,S k→k<w.heap.size)(hs:q.name.size≤lim)(hn:D.aF.length<64)(hs0:0≤D.aN)(hs1:D.aN<1000000) :
  Calls Tryz.prog 28 #[.agg (aA es ps D),.agg (ak q)] w fun z w'=>∃(no:Int) (ps':Sl) (D':Db),z=.returned (.tuple #[.agg (aA es ps' D'),.int .i64 no])∧Below w.heap.size w w'∧gG S es ps' D' X w'∧ql D q no D':=by
 have out:∀(k:Int),ql D q 0 {D with aF:=fE q k 0 false D.aF,aN:=D.aN+1}→∀(z:Ending) (w':World),UH es {D with aF:=fE q k 0 false D.aF,aN:=D.aN+1} 0 w z w'→
   ∃(no:Int) (ps':Sl) (D':Db),z=.returned (.tuple #[.agg (aA es ps' D'),.int .i64 no])∧Below w.heap.size w w'∧gG S es ps' D' X w'∧ql D q no D':=by
  rintro k hk z w' ⟨s,rfl,hb,hd⟩
  exact⟨0,s,_,rfl,hb,⟨h.dS.later hb,fun y hy=>(gY.L8 hd hS y hy).1,hd.out.2⟩,hk⟩
 cases hv:dA q with
 |false=>
  refine(agF es ps D q w hs hv).mono ?_
  rintro z w' ⟨rfl,hb⟩
  exact⟨2,ps,D,rfl,hb,h.later hb,.bad hv⟩
 |true=>
  have hp:=h.dJ.out
  rcases GU D.aF q.name with⟨hi,ha⟩|⟨i,hil,hi,hnm,-⟩
  ·exact(UJ es ps D q w hs hv hp hn hs0 hs1 _ hi).mono (out (-1) (.new hv ha))
  ·exact(UJ es ps D q w hs hv hp hn hs0 hs1 _ hi).mono (out i (.old hv i hil hnm))
theorem Hf(S:Nat→Prop)(es ps:Sl)(D:Db)(X:List EE)(r:aK)(d:Entry)(w:World)(h:gG S es ps D X w)(hS:∀k,S k→k<w.heap.size)(hk:lG S w (r,d))(hD:D.entries=X.map (·.2))(hg:iR (X.map (·.2)))(hn:X.length≤1000)(hs0:0≤D.aN)(hs1:D.aN<1000000) :
  Calls Tryz.prog 30 #[.agg (aA es ps D),.agg (ae r d)] w fun z w'=>∃(no:Int) (es':Sl) (D':Db) (X':List EE),z=.returned (.tuple #[.agg (aA es' ps D'),.int .i64 no])∧Below w.heap.size w w'∧gG S es' ps D' X' w'∧pz D X r d no D' X':=by
 have he:=hk.out
 have hX:=h.dS.out.rows
 have hm:=h.dS.out.each
 have hp:=h.dJ.out
 have same:∀(no:Int),pz D X r d no D X→∀(z:Ending) (w':World),(z=.returned (.tuple #[.agg (aA es ps D),.int .i64 no])∧Below w.heap.size w w')→
   ∃(no:Int) (es':Sl) (D':Db) (X':List EE),z=.returned (.tuple #[.agg (aA es' ps D'),.int .i64 no])∧Below w.heap.size w w'∧gG S es' ps D' X' w'∧pz D X r d no D' X':=by
  rintro no hst z w' ⟨rfl,hb⟩
  exact⟨no,es,D,X,rfl,hb,h.later hb,hst⟩
 have out:∀(X':List EE),(∀x∈X',x=(r,d)∨x∈X)→pz D X r d 0 {D with entries:=X'.map (·.2),aN:=D.aN+1} X'→∀(z:Ending) (w':World),LM ps D X' w z w'→
   ∃(no:Int) (es':Sl) (D':Db) (X':List EE),z=.returned (.tuple #[.agg (aA es' ps D'),.int .i64 no])∧Below w.heap.size w w'∧gG S es' ps D' X' w'∧pz D X r d no D' X':=by
  rintro X' hX' hst z w' ⟨s,rfl,hb,hd⟩
  refine⟨0,s,_,X',rfl,hb,⟨fun y hy=>⟨gY.L8 hd hS y hy,fun x hx=>?_⟩,h.dJ.later hb,h.cap⟩,hst⟩
  rcases hX' x hx with rfl|hx
  ·exact hk y ((But.of_below hb).trans hy)
  ·exact(h.dS y ((But.of_below hb).trans hy)).each x hx
 cases hv:bI d with
 |false=>exact(agI es ps D r d w he hv).mono (same 2 (.bad (.inl hv)))
 |true=>
  by_cases hre:d.name.aJ=D.aJ
  ·by_cases hp0:jK D.aF d
   ·have yY:d.aP=⟨#[]⟩∨(gQ w ps.a D.aF∧¬d.aP=⟨#[]⟩∧∃jp:Nat,idxOf (fun z=>decide (z.name=d.aP)) D.aF=(jp:Int)):=by
     by_cases hpe:d.aP=⟨#[]⟩
     ·exact .inl hpe
     ·rcases GU D.aF d.aP with⟨-,ha'⟩|⟨jp,hjp,hi,hnm,-⟩
      ·rcases hp0 with h|h
       ·exact .inl h
       ·rw[h]at ha';cases ha'
      ·exact .inr ⟨hp,hpe,jp,hi⟩
    rcases ag2 hg hv with⟨at0,jb,hj,hat,hb,hpre,hna,hx⟩|⟨hat,hnb,hno,hx⟩|⟨i0,hi0,hat,hnb,hen,hx⟩
    ·exact LQ es ps D r d w he X hX hm hD hn hv hre yY at0 (by rw[hD];exact hat) hs0 hs1 _ (fun _ _ _ _=>same 11 (.busy hv hre hp0 hx)) (fun h=>absurd (h jb (by simpa using hj) (by simpa using hb)) hna)
    ·refine LQ es ps D r d w he X hX hm hD hn hv hre yY (-1) (by rw[hD];exact hat) hs0 hs1 _ (fun j h hb hne=>absurd (hnb j (by simpa using h) (by simpa using hb)) hne) (fun _ X5 h5=>?_)
     obtain rfl:X=X5:=by
      rcases h5 with h|⟨i,-,h,-⟩
      ·exact h.2.symm
      ·omega
     refine out _ (fun x hx'=>?_) (.put hv hre hp0 hx X (List.Sublist.refl _) (UZ hno).symm)
     rcases List.mem_cons.1 ((wR eH (r,d) X).mem_iff.1 hx')with e|hx'
     all_goals first|exact .inl e|exact .inr hx'
    ·have hsub:=List.eraseIdx_sublist X i0
     refine LQ es ps D r d w he X hX hm hD hn hv hre yY i0 (by rw[hD];exact hat) hs0 hs1 _ (fun j h hb hne=>absurd (hnb j (by simpa using h) (by simpa using hb)) hne) (fun _ X5 h5=>?_)
     obtain rfl:X5=X.eraseIdx i0:=by
      rcases h5 with h|⟨i,-,h1,h2⟩
      ·omega
      ·rw[h2,show i=i0 by omega]
     refine out _ (fun x hx'=>?_) (.put hv hre hp0 hx (X.eraseIdx i0) hsub ?_)
     ·rcases List.mem_cons.1 ((wR eH (r,d) _).mem_iff.1 hx')with e|hx'
      all_goals first|exact .inl e|exact .inr (hsub.mem hx')
     ·have:=U7 hg.nodup hi0
      rw[hen]at this
      rw[←this,Vj]
   ·rcases GU D.aF d.aP with⟨hi,ha⟩|⟨i,hil,hi,hnm,ha'⟩
    ·exact(agK es ps D r d w he hv hre hp (fun h=>hp0 (.inl h)) hi).mono (same 9 (.L9 hv hre (fun h=>hp0 (.inl h)) ha))
    ·exact absurd (.inr ha') hp0
  ·exact(agJ es ps D r d w he hv hre).mono (same 2 (.bad (.inr hre)))
end Go.Proofs.YtpfifochimkpfaaGreatDoor
namespace Go.WW
open Go.RowKit
def gu(p:aH):ByteArray:=if aZ p=true then textOf p else⟨#[]⟩
theorem Md{p:aH}(h:aZ p=true):gu p=textOf p:=if_pos h
theorem Vl{p:aH}(h:aZ p=false):gu p=⟨#[]⟩:=if_neg (by rw[h];exact Bool.false_ne_true)
theorem Vm(p:aH):textOf p≠⟨#[]⟩:=by
 intro h
 have h1:(qR p).toArray=#[]:=congrArg ByteArray.data h
 have h2:qR p=[]:=by simpa using h1
 unfold qR at h2
 simp at h2
theorem Me{x q:aH}(hx:aZ x=true):textOf x=gu q↔bD x q=true:=by
 constructor
 ·intro h
  cases hq:aZ q with
  |true=>rw[Md hq]at h;exact(JZ (tJ hx) (tJ hq)).1 h
  |false=>rw[Vl hq]at h;exact absurd h (Vm x)
 ·intro h
  obtain rfl:=AL.1 h
  exact(Md hx).symm
end Go.WW
namespace Go.Proofs.YtpfifochimkpfaaGreatDoor
open Go.RowKit Go.WW
theorem ahj(s:Sl)(p:aH)(w:World)(hp:bK w s p)(hok:aZ p=false):Calls Tryz.prog 133 #[.agg (az s p)] w fun e w'=>e=.returned (.tuple #[.string ⟨#[]⟩,.int .i64 2])∧Below w.heap.size w w':=by
 have hB0:Below w.heap.size w (w.alloc (.cells (az s p) 35)):=(Below.refl _ w).alloc (Nat.le_refl _) _
 have hpL:=hp.later hB0
 go_enter Tryz.func133,Tryz.ntmps133
 go_wp2_with fail
 refine(ve _ _ _ hpL).mono ?_
 rintro e w1 ⟨rfl,hb1⟩
 rw[hok]
 obtain⟨hcc,bf,hrr⟩:=aQ hb1
 have hsz:w.heap.size<w1.heap.size:=by have:=hb1.size;simp at this;omega
 go_wp2_with fail
 go_ret2
 exact⟨rfl,ag hB0 hb1⟩
theorem uk(s:Sl)(p:aH)(w:World)(hp:bK w s p):Calls Tryz.prog 72 #[.agg (az s p)] w fun e w'=>e=.returned (.string (gu p))∧Below w.heap.size w w':=by
 cases hok:aZ p with
 |true=>rw[Md hok];exact qW s p w hp hok
 |false=>
  rw[Vl hok]
  have hB:Below w.heap.size w (w.alloc (.cells (az s p) 35)):=(Below.refl _ _).alloc (Nat.le_refl _) _
  go_enter Tryz.func72,Tryz.ntmps72
  go_wp2_with fail
  refine(ahj _ _ _ (hp.later hB) hok).mono ?_
  rintro e w2 ⟨rfl,hb2⟩
  dsimp only
  go_wp2_with fail
  go_ret
  exact⟨rfl,ag hB hb2⟩
end Go.Proofs.YtpfifochimkpfaaGreatDoor
namespace Go.WW
open Go.RowKit
theorem Hg(at_:Int):∀(l:List ah) (k:Nat),(lX at_ k l).Sublist l
 | [],_=>List.Sublist.refl _
 |q::l,k=>by
  unfold lX
  split
  ·exact(Hg at_ l (k+1)).cons_cons q
  ·exact(Hg at_ l (k+1)).cons q
theorem Vo(p:ah)(at_:Int):∀(l:List ah) (k:Nat),fE p at_ k true l=lX at_ k l
 | [],_=>rfl
 |q::l,k=>by
  unfold fE lX
  simp only[Bool.not_true,Bool.false_and,Bool.true_or,Bool.false_eq_true,if_false,List.nil_append]
  rw[Vo p at_ l (k+1)]
theorem Vp{a b:ByteArray}(h:qh a b=true):a=b∨dB a b<0:=by
 unfold qh at h
 rcases Bool.or_eq_true_iff.1 h with h|h
 ·right;rw[JD h];omega
 ·left;exact toList_inj (by simpa using h)
theorem ahk{a b:ByteArray}(h:qh a b=false):dB b a<0:=by
 unfold qh at h
 obtain⟨h1,h2⟩:=Bool.or_eq_false_iff.1 h
 have hne:¬a=b:=by rintro rfl;simp at h2
 have h3:=JE h1 hne
 have:=oQ.sS a b
 omega
theorem ahl{p:ah}{at_:Int}{l:List ah}{k:Nat}{dn:Bool}{x:ah}(h:x∈fE p at_ k dn l):x=p∨x∈l:=LH p at_ l k dn x h
theorem MB(p:ah)(at_:Int):∀(l:List ah) (k:Nat),Sorted dB (fun q:ah=>q.name) l→(∀i (h:i<l.length),l[i].name=p.name↔at_=((k+i:Nat):Int))→Sorted dB (fun q:ah=>q.name) (fE p at_ k false l)
 | [],k,_,_=>by simp[fE,Sorted]
 |q::l,k,hs,hat=>by
  have hs':=List.pairwise_cons.1 hs
  have h0:=hat 0 (by simp)
  simp only[List.getElem_cons_zero,Nat.add_zero]at h0
  have hrest:∀i (h:i<l.length),l[i].name=p.name↔at_=((k+1+i:Nat):Int):=fun i h=>by
   have:=hat (i+1) (by simp;omega)
   simp only[List.getElem_cons_succ]at this
   rw[show k+1+i=k+(i+1) by omega];exact this
  unfold fE
  cases hle:qh p.name q.name with
  |true=>
   simp only[Bool.not_false,Bool.true_and,if_true,Bool.or_true]
   rw[Vo,List.singleton_append]
   have hsub:((if(k:Int) != at_ then [q]else [])++lX at_ (k+1) l).Sublist (q::l):=by
    have:=Hg at_ (q::l) k
    unfold lX at this
    exact this
   refine List.pairwise_cons.2 ⟨fun x hx=>?_,hs.sublist hsub⟩
   rcases List.mem_append.1 hx with hx|hx
   ·by_cases hk:(k:Int)=at_
    ·simp[hk]at hx
    ·have hx':x=q:=by simpa[hk]using hx
     subst hx'
     rcases Vp hle with e|e
     ·exact absurd (h0.1 e.symm).symm hk
     ·exact e
   ·have h1:=hs'.1 x ((Hg at_ l (k+1)).mem hx)
    rcases Vp hle with e|e
    ·show dB p.name x.name<0
     rw[e];exact h1
    ·exact oQ.trans _ _ _ e h1
  |false=>
   have hlt:=ahk hle
   have hk:¬(k:Int)=at_:=fun e=>by
    have e1:=h0.2 e.symm
    rw[e1,JF]at hlt;omega
   simp only[Bool.not_false,Bool.and_false,Bool.false_eq_true,if_false,List.nil_append,Bool.or_false]
   rw[if_pos (by simpa using hk)]
   refine List.pairwise_cons.2 ⟨fun x hx=>?_,MB p at_ l (k+1) hs'.2 hrest⟩
   rcases ahl hx with rfl|hx
   ·exact hlt
   ·exact hs'.1 x hx
theorem Vq{D D':Db}{q:ah}{no:Int}(h:ql D q no D')(hn:(D.aF.map (·.name)).Nodup)(hs:Sorted dB (fun q:ah=>q.name) D.aF):Sorted dB (fun q:ah=>q.name) D'.aF:=by
 cases h with
 |bad hv=>exact hs
 |new hv ha=>
  refine MB q (-1) D.aF 0 hs fun i hi=>⟨fun e=>?_,fun e=>by omega⟩
  have:=List.any_eq_false.1 ha _ (List.getElem_mem hi)
  simp[e]at this
 |old hv i hi hnm=>
  refine MB q (i:Int) D.aF 0 hs fun j hj=>⟨fun e=>?_,fun e=>?_⟩
  ·have:i=j:=GM hn (i:=i) (j:=j) (by simpa using hi) (by simpa using hj) (by simpa using hnm.trans e.symm)
   omega
  ·obtain rfl:i=j:=by omega
   exact hnm
def anR(P:List ah)(k:ByteArray):List ah:=P.filter fun x=>decide (x.name≠k)
inductive Vr(D:Db)(X:List EE)(q:aH):Int→Db→List EE→Prop where
 |none (hn:∀x∈X,bD x.2.name q=false):Vr D X q 9 D X
 |yes (i:Nat) (hi:i<X.length) (hn:bD X[i].2.name q=true):Vr D X q 0 {D with entries:=(X.eraseIdx i).map (·.2),aN:=D.aN+1} (X.eraseIdx i)
theorem Vs{E:List Entry}(h:iR E){x:Entry}(hx:x∈E):aZ x.name=true:=xE (h.ok x hx) _ (List.mem_cons_self ..)
theorem fO.ahm{D:Db}{X:List EE}{NL:List (ByteArray×ByteArray)}{E:List EE}{P:List ah}(h:fO D X NL E P){q:aH}(hn:∀x∈X,bD x.2.name q=false):∀x∈E,textOf x.2.name≠gu q:=by
 intro x hx e
 have hm:x.2∈E.map (·.2):=List.mem_map.2 ⟨x,hx,rfl⟩
 obtain⟨y,hy,ey⟩:=List.mem_map.1 (h.perm.mem_iff.1 hm)
 have h1:=(Me (Vs h.good hm)).1 e
 have h2:=hn y hy
 rw[ey,h1]at h2;cases h2
theorem fO.ahn{D:Db}{X:List EE}{NL:List (ByteArray×ByteArray)}{E:List EE}{P:List ah}(h:fO D X NL E P){q:aH}{i:Nat}(hi:i<X.length)(hn:bD X[i].2.name q=true) :
  ∃x0∈E,textOf x0.2.name=gu q∧fO {D with entries:=(X.eraseIdx i).map (·.2),aN:=D.aN+1} (X.eraseIdx i) (xC NL (jq x0.2)) (tX E (gu q)) P:=by
 have hXi:X[i].2∈X.map (·.2):=List.mem_map.2 ⟨X[i],List.getElem_mem hi,rfl⟩
 have hm:=h.perm.mem_iff.2 hXi
 obtain⟨x0,hx0,e0⟩:=List.mem_map.1 hm
 have hk:textOf x0.2.name=gu q:=(Me (Vs h.good (List.mem_map.2 ⟨x0,hx0,rfl⟩))).2 (by rw[e0];exact hn)
 have e1:(tX E (gu q)).map (·.2)=kX (E.map (·.2)) (gu q):=by
  unfold tX kX
  rw[List.filter_map];rfl
 have e2:(X.eraseIdx i).map (·.2)=kX (X.map (·.2)) (gu q):=by
  rw[Vj,U7 h.rE.nodup (i:=i) (by simpa using hi)]
  congr 1
  rw[←hk,e0];simp
 have hsub:(kX (E.map (·.2)) (gu q)).Sublist (E.map (·.2)):=List.filter_sublist
 refine⟨x0,hx0,hk,rfl,?_,?_,?_,h.sorted.sublist (List.eraseIdx_sublist X i),h.dJ,fun x hx=>h.has x ((List.eraseIdx_sublist X i).mem hx)⟩
 ·rw[e1,←hk]
  exact U0 h.names h.good (List.mem_map.2 ⟨x0,hx0,rfl⟩)
 ·rw[e1]
  exact⟨fun x hx=>h.good.ok x (hsub.mem hx),(hsub.map _).nodup h.good.nodup,fun x hx y hy=>h.good.apart x (hsub.mem hx) y (hsub.mem hy)⟩
 ·rw[e1,e2]
  exact h.perm.filter _
inductive MC(D:Db)(k:ByteArray):Int→Db→Prop where
 |none (hn:D.aF.any (fun x=>decide (x.name=k))=false):MC D k 9 D
 |busy (i:Nat) (hi:i<D.aF.length) (hn:D.aF[i].name=k) (hb:∃x∈D.entries,x.aP=k):MC D k 11 D
 |yes (i:Nat) (hi:i<D.aF.length) (hn:D.aF[i].name=k) (hb:∀x∈D.entries,¬x.aP=k):MC D k 0 {D with aF:=D.aF.eraseIdx i,aN:=D.aN+1}
theorem jK.congr{L:List ah}{d d':Entry}(e:d'.aP=d.aP)(h:jK L d):jK L d':=by
 unfold jK at h ⊢
 rw[e];exact h
def jD(f a b:Int):Bool:=aC f 0 65535&&aC a 0 1099511627776&&aC b 0 1099511627776
def touched(d:Entry)(f a b:Int):Entry:={d with fails:=f,dw:=a,iw:=b}
theorem ahp{d:Entry}{f a b:Int}(h:bI d=true)(ht:jD f a b=true):bI (touched d f a b)=true:=by
 simp only[jD,Bool.and_eq_true]at ht
 simp only[bI,jl,kL,touched,Bool.and_eq_true,decide_eq_true_eq]at h ⊢
 simp only[h,ht,and_self,decide_true]
def jr(k:ByteArray)(f a b:Int)(d:Entry):Entry:=if textOf d.name=k then touched d f a b else d
theorem vT(k:ByteArray)(f a b:Int)(d:Entry):(jr k f a b d).name=d.name:=by unfold jr;split<;>rfl
theorem ahq(k:ByteArray)(f a b:Int)(d:Entry):(jr k f a b d).aliases=d.aliases:=by unfold jr;split<;>rfl
theorem ahr(k:ByteArray)(f a b:Int)(d:Entry):(jr k f a b d).aP=d.aP:=by unfold jr;split<;>rfl
theorem Hl(k:ByteArray)(f a b:Int)(d:Entry):jq (jr k f a b d)=jq d:=by unfold jq;rw[vT,ahq]
theorem ahs{k:ByteArray}{f a b:Int}{d:Entry}(h:bI d=true)(ht:jD f a b=true):bI (jr k f a b d)=true:=by
 unfold jr;split
 ·exact ahp h ht
 ·exact h
def um(k:ByteArray)(f a b:Int)(x:EE):EE:=(x.1,jr k f a b x.2)
theorem Hm(k:ByteArray)(f a b:Int)(X:List EE):(X.map (um k f a b)).map (·.2)=(X.map (·.2)).map (jr k f a b):=by rw[List.map_map,List.map_map];rfl
theorem iR.touch{E:List Entry}(h:iR E)(k:ByteArray){f a b:Int}(ht:jD f a b=true):iR (E.map (jr k f a b)):=by
 refine⟨fun x hx=>?_,?_,fun x hx y hy=>?_⟩
 ·obtain⟨z,hz,rfl⟩:=List.mem_map.1 hx
  exact ahs (h.ok z hz) ht
 ·rw[List.map_map]
  have:(fun x:Entry=>textOf x.name)∘jr k f a b=fun x=>textOf x.name:=funext fun x=>by simp[vT]
  rw[this];exact h.nodup
 ·obtain⟨z,hz,rfl⟩:=List.mem_map.1 hx
  obtain⟨z',hz',rfl⟩:=List.mem_map.1 hy
  rw[Hl,Hl,vT,vT]
  exact h.apart z hz z' hz'
inductive rF(D:Db)(X:List EE)(q:aH)(f a b:Int):Int→Db→List EE→Prop where
 |bad (hv:jD f a b=false):rF D X q f a b 2 D X
 |none (hv:jD f a b=true) (hn:∀x∈X,bD x.2.name q=false):rF D X q f a b 9 D X
 |yes (hv:jD f a b=true) (i:Nat) (hi:i<X.length) (hn:bD X[i].2.name q=true):rF D X q f a b 0 {D with entries:=(X.map (um (gu q) f a b)).map (·.2),aN:=D.aN+1} (X.map (um (gu q) f a b))
theorem fO.touch{D:Db}{X:List EE}{NL:List (ByteArray×ByteArray)}{E:List EE}{P:List ah}(h:fO D X NL E P)(k:ByteArray){f a b:Int}(ht:jD f a b=true) :
  fO {D with entries:=(X.map (um k f a b)).map (·.2),aN:=D.aN+1} (X.map (um k f a b)) NL (E.map (um k f a b)) P:=by
 refine⟨rfl,?_,?_,?_,?_,h.dJ,fun x hx=>?_⟩
 ·intro j o
  rw[h.names j o,Hm]
  constructor
  ·rintro⟨x,hx,rfl,q,hq,e⟩
   exact⟨jr k f a b x,List.mem_map.2 ⟨x,hx,rfl⟩,by rw[vT],q,by rw[Hl];exact hq,e⟩
  ·rintro⟨x,hx,rfl,q,hq,e⟩
   obtain⟨z,hz,rfl⟩:=List.mem_map.1 hx
   rw[Hl]at hq
   exact⟨z,hz,by rw[vT],q,hq,e⟩
 ·rw[Hm];exact h.good.touch k ht
 ·rw[Hm,Hm];exact h.perm.map _
 ·refine List.pairwise_map.2 (h.sorted.imp fun{x y} hxy=>?_)
  show fB (jr k f a b x.2).name (jr k f a b y.2).name<0
  rw[vT,vT];exact hxy
 ·obtain⟨z,hz,rfl⟩:=List.mem_map.1 hx
  have:=h.has z hz
  exact jK.congr (ahr k f a b z.2) this
theorem aht{X:List EE}(hg:iR (X.map (·.2))){i:Nat}(hi:i<X.length){k:ByteArray}(hk:textOf X[i].2.name=k)(f a b:Int):X.map (um k f a b)=X.set i (X[i].1,touched X[i].2 f a b):=by
 refine List.ext_getElem (by simp) fun j h1 h2=>?_
 have hj:j<X.length:=by simpa using h1
 rw[List.getElem_map,List.getElem_set]
 by_cases e:i=j
 ·subst e
  rw[if_pos rfl]
  show(X[i].1,jr k f a b X[i].2)=_
  unfold jr;rw[if_pos hk]
 ·rw[if_neg e]
  show(X[j].1,jr k f a b X[j].2)=_
  unfold jr
  rw[if_neg fun e2=>e (DI hg (i:=i) (j:=j) (by simpa using hi) (by simpa using hj) (by simpa using hk.trans e2.symm))]
theorem Vt{E:List EE}(hg:iR (E.map (·.2))){x0:EE}(hx0:x0∈E){k:ByteArray}(hk:textOf x0.2.name=k)(f a b:Int) :
  ou (E.map fun x=>(textOf x.2.name,Value.agg (cZ x))) k (.agg (cZ (x0.1,touched x0.2 f a b)))=(E.map (um k f a b)).map fun x=>(textOf x.2.name,Value.agg (cZ x)):=by
 unfold ou
 rw[if_pos (by
  unfold hasK
  exact List.any_eq_true.2 ⟨_,List.mem_map.2 ⟨x0,hx0,rfl⟩,by simpa using hk⟩),List.map_map,List.map_map]
 refine List.map_congr_left fun x hx=>?_
 simp only[Function.comp]
 show(if textOf x.2.name=k then _ else _)=(textOf (jr k f a b x.2).name,Value.agg (cZ (x.1,jr k f a b x.2)))
 rw[vT]
 unfold jr
 by_cases e:textOf x.2.name=k
 ·rw[if_pos e,if_pos e,e]
  have:x=x0:=by
   obtain⟨i,hi,rfl⟩:=List.mem_iff_getElem.1 hx
   obtain⟨j,hj,rfl⟩:=List.mem_iff_getElem.1 hx0
   obtain rfl:=DI hg (i:=i) (j:=j) (by simpa using hi) (by simpa using hj) (by simpa using e.trans hk.symm)
   rfl
  rw[this]
 ·rw[if_neg e,if_neg e]
theorem ahu(D:Db)(X:List EE)(q:aH)(f a b:Int):∃no D' X',rF D X q f a b no D' X':=by
 cases hv:jD f a b with
 |false=>exact⟨_,_,_,.bad hv⟩
 |true=>
  by_cases h:∃i,∃hi:i<X.length,bD X[i].2.name q=true
  ·obtain⟨i,hi,hn⟩:=h
   exact⟨_,_,_,.yes hv i hi hn⟩
  ·refine⟨_,_,_,.none hv fun x hx=>?_⟩
   obtain⟨i,hi,rfl⟩:=List.mem_iff_getElem.1 hx
   cases hs:bD X[i].2.name q with
   |false=>rfl
   |true=>exact absurd ⟨i,hi,hs⟩ h
structure MF(M:World→Prop)(w:World):Prop where
 out:M w
theorem Ba{ι:Type}{c:Code}{P:Program}{Q:Exit→Act→World→Prop}{a:Act}{w:World}(M:ι→World→Prop)(F:ι→Act)
  (h1:c.wp P (fun e a' w'=>e=.normal∧∃i,a'=F i∧MF (M i) w') a w) (h2:∀i w',M i w'→Q .normal (F i) w'):c.wp P Q a w:=by
 refine wp_mono h1 ?_
 rintro e a' w' ⟨rfl,i,rfl,h⟩
 exact h2 i w' h.out
theorem Vu{c:Code}{P:Program}{Q:Exit→Act→World→Prop}{a:Act}{w:World}(M:World→Prop)(F:Act)
  (h1:c.wp P (fun e a' w'=>e=.normal∧a'=F∧MF M w') a w) (h2:∀w',M w'→Q .normal F w'):c.wp P Q a w:=by
 refine wp_mono h1 ?_
 rintro e a' w' ⟨rfl,rfl,h⟩
 exact h2 w' h.out
theorem Vw{ι κ:Type}{c:Code}{P:Program}{Q:Exit→Act→World→Prop}{a:Act}{w:World}(M:ι→κ→World→Prop)(F:ι→κ→Act)
  (h1:c.wp P (fun e a' w'=>e=.normal∧∃i j,a'=F i j∧MF (M i j) w') a w) (h2:∀i j w',M i j w'→Q .normal (F i j) w'):c.wp P Q a w:=by
 refine wp_mono h1 ?_
 rintro e a' w' ⟨rfl,i,j,rfl,h⟩
 exact h2 i j w' h.out
theorem Vx(r:aK)(d:Entry)(f a b:Int):(((ae r d).setIfInBounds 11 (.int .i64 f)).setIfInBounds 12 (.int .i64 a)).setIfInBounds 13 (.int .i64 b)=ae r (touched d f a b):=by kernel_rfl
theorem Vy{S:Nat→Prop}{W w:World}{b o:Nat}{v:Value}(h:But S W w)(hb:S b∨W.heap.size≤b):But S W (w.setCell ⟨b,o,none⟩ v):=
 ⟨h.os,h.tape,h.output,by have:=h.size;simpa[World.setCell]using this,fun k hk hn=>(Below.heap_setCell _ _ _ _ (show k≠b by rintro rfl;rcases hb with hb|hb;exact hn hb;omega)).trans (h.block k hk hn)⟩
end Go.WW
namespace Go.Proofs.YtpfifochimkpfaaGreatDoor
open Go.RowKit Go.WW
attribute [local irreducible] aG
theorem ahv(b n e p:Nat)(re:ByteArray)(s:Int)(N:List (ByteArray×Value))(E:List EE)(P:List ah)(t:Sl)(q:aH)(f la su:Int)(w:World)(h:dG w b n e p re s N E P)(hre:¬re=⟨#[]⟩)(hv:jD f la su=false) :
  Calls Tryz.prog 40 #[.pointer (some ⟨b,0,none⟩),.agg (az t q),.int .i64 f,.int .i64 la,.int .i64 su] w fun z w'=>z=.returned (.int .i64 2)∧Below w.heap.size w w':=by
 have hB:Below w.heap.size w (w.alloc (.cells (az t q) 35)):=(Below.refl _ _).alloc (Nat.le_refl _) _
 have hx3:(w.alloc (.cells (az t q) 35)).heap[w.heap.size]?=some (.cells (az t q) 35):=World.alloc_heap_new _ _
 have h':=h.later hB
 go_enter Tryz.func40,Tryz.ntmps40
 go_wp2_with fail
 generalize (w.alloc (.cells (az t q) 35))=W at *
 obtain⟨c0,c1,c2,c3,c4,f1,hl⟩:=gm h'.box
 have l0:w.heap.size<W.heap.size:=(Array.getElem?_eq_some_iff.1 hx3).1
 have kW:row? W w.heap.size 0 2=some (az t q):=by rw[dI hx3];exact gI (by simp[go_sem])
 refine(nI _ _ _ c0 hre).mono ?_
 rintro x w' ⟨rfl,rfl⟩
 dsimp only
 have hcs:f<0∨(¬f<0∧65535<f)∨(¬f<0∧¬65535<f∧la<0)∨(¬f<0∧¬65535<f∧¬la<0∧1099511627776<la)∨(¬f<0∧¬65535<f∧¬la<0∧¬1099511627776<la∧su<0)∨(¬f<0∧¬65535<f∧¬la<0∧¬1099511627776<la∧¬su<0∧1099511627776<su):=by
  simp only[jD,aC,Bool.and_eq_false_iff,decide_eq_false_iff_not]at hv
  omega
 rcases hcs with h1|⟨h1,h2⟩|⟨h1,h2,h3⟩|⟨h1,h2,h3,h4⟩|⟨h1,h2,h3,h4,h5⟩|⟨h1,h2,h3,h4,h5,h6⟩
 all_goals (
  go_wp2_with fail
  go_ret
  exact⟨rfl,hB⟩)
theorem ahw(b n e p:Nat)(re:ByteArray)(s:Int)(N:List (ByteArray×Value))(E:List EE)(P:List ah)(t:Sl)(q:aH)(f la su:Int)(w:World)(h:dG w b n e p re s N E P)(hre:¬re=⟨#[]⟩)(hq:bK w t q)(hv:jD f la su=true)(hno:∀x∈E,textOf x.2.name≠gu q) :
  Calls Tryz.prog 40 #[.pointer (some ⟨b,0,none⟩),.agg (az t q),.int .i64 f,.int .i64 la,.int .i64 su] w fun z w'=>z=.returned (.int .i64 9)∧Below w.heap.size w w':=by
 have hB:Below w.heap.size w (w.alloc (.cells (az t q) 35)):=(Below.refl _ _).alloc (Nat.le_refl _) _
 have hx3:(w.alloc (.cells (az t q) 35)).heap[w.heap.size]?=some (.cells (az t q) 35):=World.alloc_heap_new _ _
 have h':=h.later hB
 have hq':=hq.later hB
 go_enter Tryz.func40,Tryz.ntmps40
 go_wp2_with fail
 generalize (w.alloc (.cells (az t q) 35))=W at *
 obtain⟨c0,c1,c2,c3,c4,f1,hl⟩:=gm h'.box
 have l0:w.heap.size<W.heap.size:=(Array.getElem?_eq_some_iff.1 hx3).1
 have kW:row? W w.heap.size 0 2=some (az t q):=by rw[dI hx3];exact gI (by simp[go_sem])
 refine(nI _ _ _ c0 hre).mono ?_
 rintro x w' ⟨rfl,rfl⟩
 dsimp only
 obtain⟨t1,t2,t3,t4,t5,t6⟩:¬f<0∧¬65535<f∧¬la<0∧¬1099511627776<la∧¬su<0∧¬1099511627776<su:=by
  simp only[jD,aC,Bool.and_eq_true,decide_eq_true_eq]at hv
  omega
 have hlk:∀x:Later W,(Instr.lookup 95 (.map (some e)) (.string (gu q)) true).run Tryz.prog x.w=.ok (.tuple #[.agg (ae bg aV),.bool false]) x.w:=fun x=>Gw (h'.em.at (x.b.block e h'.em.lt)) _ hno
 go_wp2_with fail
 refine Dv 11 6 [0,1,2,3,4,5,11,6,7,8,9,10,12,13] (Below.refl _ W) (by kernel_rfl) (by kernel_rfl) (by rfl) ?_ ?_
 ·intro v1 hv1
  iterate 6 (refine bC (by kernel_rfl) (by kernel_rfl) (fun K hK=>?_);go_big_quiet_op;refine hK _ ?_;clear hK K)
  refine bZ (by rfl) (by rfl) (fun K hK=>?_)
  go_wp2_with fail
  refine(uk _ _ v1 (hq'.later hv1)).mono ?_
  rintro z v2 ⟨rfl,hv2⟩
  dsimp only
  have aU:=ag hv1 hv2
  refine hK _ _ (aj aU) ?_
  clear hK K
  iterate 4 (refine bC (by kernel_rfl) (by kernel_rfl) (fun K hK=>?_);go_big_quiet_op;refine hK _ ?_;clear hK K)
  refine bZ (by rfl) (by rfl) (fun K hK=>?_)
  go_wp2_with fail
  refine hK _ _ (aj (ay aU _)) ?_
  clear hK K
  refine bZ (by rfl) (by rfl) (fun K hK=>?_)
  go_wp2_with fail
  refine hK _ _ (aj (ay aU (.cells (ae bg aV) 44))) ?_
  clear hK K
  iterate 1 (refine bC (by kernel_rfl) (by kernel_rfl) (fun K hK=>?_);go_big_quiet_op;refine hK _ ?_;clear hK K)
  refine bz ?_
  have eQ:=ay aU (.cells (ae bg aV) 44)
  have hbx:=World.alloc_heap_new v2 (.cells (ae bg aV) 44)
  have jw:W.heap.size≤v2.heap.size:=aU.size
  clear hlk hv1 hv2 aU
  generalize (v2.alloc (.cells (ae bg aV) 44))=V5 at *
  generalize v2.heap.size=bx at *
  go_wp2_with fail
  go_ret
  exact⟨rfl,ag hB eQ⟩
 ·intro v1 hv1
  simp only[pick,List.getElem?_cons_zero,List.getElem?_cons_succ]
  iterate 6 (refine bC (by kernel_rfl) (by kernel_rfl) (fun K hK=>?_);go_big_quiet_op;refine hK _ ?_;clear hK K)
  refine bZ (by rfl) (by rfl) (fun K hK=>?_)
  go_wp2_with fail
  refine hK _ _ (aj (ay hv1 _)) ?_
  clear hK K
  rw[←mO]
  have hz1:=World.alloc_heap_new v1 (.cells (ae bg aV) 44)
  have iF:=ay hv1 (.cells (ae bg aV) 44)
  generalize v1.alloc (.cells (ae bg aV) 44)=Z at *
  refine bZ (by rfl) (by rfl) (fun K hK=>?_)
  go_wp2_with fail
  refine(uk _ _ _ (hq'.later iF)).mono ?_
  rintro z v2 ⟨rfl,hv2⟩
  dsimp only
  have aU:=ag iF hv2
  refine hK _ _ (aj aU) ?_
  clear hK K
  have hz2:=aI hv2 hz1
  have hcp:aX v2 v1.heap.size 0 17=true:=iC hz2 (by simp[go_sem])
  have eQ:=Go.WW.Below.putRow (o:=0) (cs:=ae bg aV) aU hv1.size
  iterate 4 (refine bC (by kernel_rfl) (by kernel_rfl) (fun K hK=>?_);go_big_quiet_op;refine hK _ ?_;clear hK K)
  refine bZ (by rfl) (by rfl) (fun K hK=>?_)
  go_wp2_with fail
  refine hK _ _ (aj eQ) ?_
  clear hK K
  iterate 1 (refine bC (by kernel_rfl) (by kernel_rfl) (fun K hK=>?_);go_big_quiet_op;refine hK _ ?_;clear hK K)
  refine bz ?_
  have hbx:=jk (o:=0) (cs:=ae bg aV) hz2 (by simp[go_sem])
  rw[kR (by simp[go_sem])]at hbx
  have jw:W.heap.size≤v1.heap.size:=hv1.size
  clear hlk hv2 aU hz1 hz2 hcp iF
  generalize (putRow v2 v1.heap.size 0 (ae bg aV))=V5 at *
  generalize v1.heap.size=bx at *
  go_wp2_with fail
  go_ret
  exact⟨rfl,ag hB eQ⟩
theorem ahx(b n e p:Nat)(re:ByteArray)(s:Int)(N:List (ByteArray×Value))(E:List EE)(P:List ah)(t:Sl)(q:aH)(f la su:Int)(w:World)(h:dG w b n e p re s N E P)(hre:¬re=⟨#[]⟩)(hq:bK w t q)(hv:jD f la su=true)(hg:iR (E.map (·.2)))(hs0:0≤s)(hs1:s<1000000)(x0:EE)(hx0:x0∈E)(MG:textOf x0.2.name=gu q) :
  Calls Tryz.prog 40 #[.pointer (some ⟨b,0,none⟩),.agg (az t q),.int .i64 f,.int .i64 la,.int .i64 su] w fun z w'=>z=.returned (.int .i64 0)∧But (aW b n e p) w w'∧dG w' b n e p re (s+1) N (E.map (um (gu q) f la su)) P:=by
 have hB:Below w.heap.size w (w.alloc (.cells (az t q) 35)):=(Below.refl _ _).alloc (Nat.le_refl _) _
 have hx3:(w.alloc (.cells (az t q) 35)).heap[w.heap.size]?=some (.cells (az t q) 35):=World.alloc_heap_new _ _
 have h':=h.later hB
 have hq':=hq.later hB
 go_enter Tryz.func40,Tryz.ntmps40
 go_wp2_with fail
 generalize (w.alloc (.cells (az t q) 35))=W at *
 obtain⟨c0,c1,c2,c3,c4,f1,hl⟩:=gm h'.box
 have l0:w.heap.size<W.heap.size:=(Array.getElem?_eq_some_iff.1 hx3).1
 have kW:row? W w.heap.size 0 2=some (az t q):=by rw[dI hx3];exact gI (by simp[go_sem])
 refine(nI _ _ _ c0 hre).mono ?_
 rintro x w' ⟨rfl,rfl⟩
 dsimp only
 obtain⟨t1,t2,t3,t4,t5,t6⟩:¬f<0∧¬65535<f∧¬la<0∧¬1099511627776<la∧¬su<0∧¬1099511627776<su:=by
  simp only[jD,aC,Bool.and_eq_true,decide_eq_true_eq]at hv
  omega
 have hlk:∀x:Later W,(Instr.lookup 95 (.map (some e)) (.string (gu q)) true).run Tryz.prog x.w=.ok (.tuple #[.agg (ae x0.1 x0.2),.bool true]) x.w:=fun x=>MG▸Gv (h'.em.at (x.b.block e h'.em.lt)) x0 hx0
 go_wp2_with fail
 refine Dv 11 6 [0,1,2,3,4,5,11,6,7,8,9,10,12,13] (Below.refl _ W) (by kernel_rfl) (by kernel_rfl) (by rfl) ?_ ?_
 ·intro v1 hv1
  iterate 6 (refine bC (by kernel_rfl) (by kernel_rfl) (fun K hK=>?_);go_big_quiet_op;refine hK _ ?_;clear hK K)
  refine bZ (by rfl) (by rfl) (fun K hK=>?_)
  go_wp2_with fail
  refine(uk _ _ v1 (hq'.later hv1)).mono ?_
  rintro z v2 ⟨rfl,hv2⟩
  dsimp only
  have aU:=ag hv1 hv2
  refine hK _ _ (aj aU) ?_
  clear hK K
  iterate 4 (refine bC (by kernel_rfl) (by kernel_rfl) (fun K hK=>?_);go_big_quiet_op;refine hK _ ?_;clear hK K)
  refine bZ (by rfl) (by rfl) (fun K hK=>?_)
  go_wp2_with fail
  refine hK _ _ (aj (ay aU _)) ?_
  clear hK K
  refine bZ (by rfl) (by rfl) (fun K hK=>?_)
  go_wp2_with fail
  refine hK _ _ (aj (ay aU (.cells (ae x0.1 x0.2) 44))) ?_
  clear hK K
  iterate 1 (refine bC (by kernel_rfl) (by kernel_rfl) (fun K hK=>?_);go_big_quiet_op;refine hK _ ?_;clear hK K)
  refine bz ?_
  have eQ:=ay aU (.cells (ae x0.1 x0.2) 44)
  have hbx:=World.alloc_heap_new v2 (.cells (ae x0.1 x0.2) 44)
  have jw:W.heap.size≤v2.heap.size:=aU.size
  clear hlk hv1 hv2 aU
  generalize (v2.alloc (.cells (ae x0.1 x0.2) 44))=V5 at *
  generalize v2.heap.size=bx at *
  have ug:=ag hB eQ
  have h5:=h'.later eQ
  have hx5:=aI eQ hx3
  clear c0 c1 c2 c3 c4 f1 hl kW l0
  have l0:w.heap.size<V5.heap.size:=(Array.getElem?_eq_some_iff.1 hx5).1
  have kW:row? V5 w.heap.size 0 2=some (az t q):=by rw[dI hx5];exact gI (by simp[go_sem])
  have n0:=nN h w.heap.size (Nat.le_refl _)
  obtain⟨hc,hf,hr,hlt⟩:=ax hbx
  go_wp2_with fail
  have hs3:=dH (o:=13) (.int .i64 su) (dH (o:=12) (.int .i64 la) (dH (o:=11) (.int .i64 f) hbx))
  rw[Vx]at hs3
  have hbw:w.heap.size≤bx:=Nat.le_trans hB.size jw
  have hb3:Below W.heap.size W (((V5.setCell ⟨bx,11,none⟩ (.int .i64 f)).setCell ⟨bx,12,none⟩ (.int .i64 la)).setCell ⟨bx,13,none⟩ (.int .i64 su)):=((eQ.setCell jw _).setCell jw _).setCell jw _
  clear hc hf hr hlt hbx eQ
  generalize (((V5.setCell ⟨bx,11,none⟩ (.int .i64 f)).setCell ⟨bx,12,none⟩ (.int .i64 la)).setCell ⟨bx,13,none⟩ (.int .i64 su))=V6 at *
  clear ug h5 hx5 l0 kW
  have xy:=ag hB hb3
  have h6:=h.later xy
  have hx6:=aI hb3 hx3
  obtain⟨c0,c1,c2,c3,c4,f1,hl⟩:=gm h6.box
  have l0:w.heap.size<V6.heap.size:=(Array.getElem?_eq_some_iff.1 hx6).1
  have l1:bx<V6.heap.size:=(Array.getElem?_eq_some_iff.1 hs3).1
  have kW:row? V6 w.heap.size 0 2=some (az t q):=by rw[dI hx6];exact gI (by simp[go_sem])
  have ahy:row? V6 bx 0 17=some (ae x0.1 (touched x0.2 f la su)):=by rw[dI hs3];exact gI (by simp[go_sem])
  have n1:=nN h bx hbw
  have e1:¬one e w.heap.size:=bU (fun e'=>n0 (.inr (.inr (.inl e'))))
  have e2:¬one e bx:=bU (fun e'=>n1 (.inr (.inr (.inl e'))))
  have e3:¬one e b:=bU (jo h.box h.em)
  go_wp2_with fail
  refine oV (one e) (But.refl _ V6) (by kernel_rfl) (by kernel_rfl) ?_
  repeat (first|(refine ai (by rfl) ?_)|(refine bC (by rfl) (by rfl) (fun K hK=>?_);go_big_quiet_op;refine hK _ ?_;clear hK K))
  refine bZ (by rfl) (by rfl) (fun K hK=>?_)
  go_wp2_with fail
  refine(uk _ _ V6.drew ((hq'.later hb3).later (Below.refl _ _).drew)).mono ?_
  rintro z V7 ⟨rfl,hb7⟩
  dsimp only
  have nO:Below V6.heap.size V6 V7:=(Below.refl _ V6).drew.trans hb7
  refine hK _ _ (fU (But.of_below nO)) ?_
  clear hK K
  repeat (first|(refine ai (by rfl) ?_)|(refine bC (by rfl) (by rfl) (fun K hK=>?_);go_big_quiet_op;refine hK _ ?_;clear hK K))
  obtain⟨V8,hrun,DN,hb8,hs8⟩:=Am (P:=Tryz.prog) (k:=gu q) (v:=.agg (ae x0.1 (touched x0.2 f la su))) Tryz.underlying95 Tryz.underlying9 (h6.em.at (nO.block e h6.em.lt))
  rw[show Value.agg (ae x0.1 (touched x0.2 f la su))=Value.agg (cZ (x0.1,touched x0.2 f la su)) from rfl,Vt hg hx0 MG]at DN
  have rG:But (one e) V6 V8:=(But.of_below nO).trans ⟨hb8.os,hb8.tape,hb8.output,hb8.size,hb8.block⟩
  refine bZ (by rfl) (by rfl) (fun K hK=>?_)
  go_wp2_with fail
  refine hK _ _ (fU rG) ?_
  clear hK K
  repeat (first|(refine ai (by rfl) ?_)|(refine bC (by rfl) (by rfl) (fun K hK=>?_);go_big_quiet_op;refine hK _ ?_;clear hK K))
  refine bz ?_
  have ku:V8.heap[b]?=some (.cells (lN re s n e p) 100):=(rG.block b hl e3).trans h6.box
  obtain⟨ru,yO,KH,KI⟩:=ax ku
  have hc91:=ru 1
  have yP:=yO 1
  go_wp2_with fail
  refine(CJ b s V8 hc91 yP hs0 hs1).mono ?_
  rintro z w' ⟨rfl,rfl⟩
  dsimp only
  have DC:But (aW b n e p) w V8:=(But.of_below xy).trans (rG.mono fun k hk=>.inr (.inr (.inl hk)))
  have vO:=dH (o:=1) (.int .i64 (s+1)) ku
  rw[CG]at vO
  have hoth:∀k,k≠b→(V8.setCell ⟨b,1,none⟩ (.int .i64 (s+1))).heap[k]?=V8.heap[k]?:=fun k hk=>Below.heap_setCell _ _ _ _ hk
  have hnb:n≠b:=fun e'=>jo h6.box h6.nm e'.symm
  have heb:e≠b:=fun e'=>jo h6.box h6.em e'.symm
  have hpb:p≠b:=fun e'=>jo h6.box h6.pm e'.symm
  have h8:=dG.mk vO (h6.nm.at ((hoth n hnb).trans (rG.block n h6.nm.lt (bU h.ne.1)))) (DN.at (hoth e heb)) (h6.pm.at ((hoth p hpb).trans (rG.block p h6.pm.lt (bU (Ne.symm h.ne.2.2))))) h.ne
  have MH:=Vy (o:=1) (v:=.int .i64 (s+1)) DC (.inl (.inl rfl))
  go_wp2_with fail
  go_ret
  exact⟨rfl,MH,h8⟩
 ·intro v1 hv1
  simp only[pick,List.getElem?_cons_zero,List.getElem?_cons_succ]
  iterate 6 (refine bC (by kernel_rfl) (by kernel_rfl) (fun K hK=>?_);go_big_quiet_op;refine hK _ ?_;clear hK K)
  refine bZ (by rfl) (by rfl) (fun K hK=>?_)
  go_wp2_with fail
  refine hK _ _ (aj (ay hv1 _)) ?_
  clear hK K
  rw[←mO]
  have hz1:=World.alloc_heap_new v1 (.cells (ae bg aV) 44)
  have iF:=ay hv1 (.cells (ae bg aV) 44)
  generalize v1.alloc (.cells (ae bg aV) 44)=Z at *
  refine bZ (by rfl) (by rfl) (fun K hK=>?_)
  go_wp2_with fail
  refine(uk _ _ _ (hq'.later iF)).mono ?_
  rintro z v2 ⟨rfl,hv2⟩
  dsimp only
  have aU:=ag iF hv2
  refine hK _ _ (aj aU) ?_
  clear hK K
  have hz2:=aI hv2 hz1
  have hcp:aX v2 v1.heap.size 0 17=true:=iC hz2 (by simp[go_sem])
  have eQ:=Go.WW.Below.putRow (o:=0) (cs:=ae x0.1 x0.2) aU hv1.size
  iterate 4 (refine bC (by kernel_rfl) (by kernel_rfl) (fun K hK=>?_);go_big_quiet_op;refine hK _ ?_;clear hK K)
  refine bZ (by rfl) (by rfl) (fun K hK=>?_)
  go_wp2_with fail
  refine hK _ _ (aj eQ) ?_
  clear hK K
  iterate 1 (refine bC (by kernel_rfl) (by kernel_rfl) (fun K hK=>?_);go_big_quiet_op;refine hK _ ?_;clear hK K)
  refine bz ?_
  have hbx:=jk (o:=0) (cs:=ae x0.1 x0.2) hz2 (by simp[go_sem])
  rw[kR (by simp[go_sem])]at hbx
  have jw:W.heap.size≤v1.heap.size:=hv1.size
  clear hlk hv2 aU hz1 hz2 hcp iF
  generalize (putRow v2 v1.heap.size 0 (ae x0.1 x0.2))=V5 at *
  generalize v1.heap.size=bx at *
  have ug:=ag hB eQ
  have h5:=h'.later eQ
  have hx5:=aI eQ hx3
  clear c0 c1 c2 c3 c4 f1 hl kW l0
  have l0:w.heap.size<V5.heap.size:=(Array.getElem?_eq_some_iff.1 hx5).1
  have kW:row? V5 w.heap.size 0 2=some (az t q):=by rw[dI hx5];exact gI (by simp[go_sem])
  have n0:=nN h w.heap.size (Nat.le_refl _)
  obtain⟨hc,hf,hr,hlt⟩:=ax hbx
  go_wp2_with fail
  have hs3:=dH (o:=13) (.int .i64 su) (dH (o:=12) (.int .i64 la) (dH (o:=11) (.int .i64 f) hbx))
  rw[Vx]at hs3
  have hbw:w.heap.size≤bx:=Nat.le_trans hB.size jw
  have hb3:Below W.heap.size W (((V5.setCell ⟨bx,11,none⟩ (.int .i64 f)).setCell ⟨bx,12,none⟩ (.int .i64 la)).setCell ⟨bx,13,none⟩ (.int .i64 su)):=((eQ.setCell jw _).setCell jw _).setCell jw _
  clear hc hf hr hlt hbx eQ
  generalize (((V5.setCell ⟨bx,11,none⟩ (.int .i64 f)).setCell ⟨bx,12,none⟩ (.int .i64 la)).setCell ⟨bx,13,none⟩ (.int .i64 su))=V6 at *
  clear ug h5 hx5 l0 kW
  have xy:=ag hB hb3
  have h6:=h.later xy
  have hx6:=aI hb3 hx3
  obtain⟨c0,c1,c2,c3,c4,f1,hl⟩:=gm h6.box
  have l0:w.heap.size<V6.heap.size:=(Array.getElem?_eq_some_iff.1 hx6).1
  have l1:bx<V6.heap.size:=(Array.getElem?_eq_some_iff.1 hs3).1
  have kW:row? V6 w.heap.size 0 2=some (az t q):=by rw[dI hx6];exact gI (by simp[go_sem])
  have ahy:row? V6 bx 0 17=some (ae x0.1 (touched x0.2 f la su)):=by rw[dI hs3];exact gI (by simp[go_sem])
  have n1:=nN h bx hbw
  have e1:¬one e w.heap.size:=bU (fun e'=>n0 (.inr (.inr (.inl e'))))
  have e2:¬one e bx:=bU (fun e'=>n1 (.inr (.inr (.inl e'))))
  have e3:¬one e b:=bU (jo h.box h.em)
  go_wp2_with fail
  refine oV (one e) (But.refl _ V6) (by kernel_rfl) (by kernel_rfl) ?_
  repeat (first|(refine ai (by rfl) ?_)|(refine bC (by rfl) (by rfl) (fun K hK=>?_);go_big_quiet_op;refine hK _ ?_;clear hK K))
  refine bZ (by rfl) (by rfl) (fun K hK=>?_)
  go_wp2_with fail
  refine(uk _ _ V6.drew ((hq'.later hb3).later (Below.refl _ _).drew)).mono ?_
  rintro z V7 ⟨rfl,hb7⟩
  dsimp only
  have nO:Below V6.heap.size V6 V7:=(Below.refl _ V6).drew.trans hb7
  refine hK _ _ (fU (But.of_below nO)) ?_
  clear hK K
  repeat (first|(refine ai (by rfl) ?_)|(refine bC (by rfl) (by rfl) (fun K hK=>?_);go_big_quiet_op;refine hK _ ?_;clear hK K))
  obtain⟨V8,hrun,DN,hb8,hs8⟩:=Am (P:=Tryz.prog) (k:=gu q) (v:=.agg (ae x0.1 (touched x0.2 f la su))) Tryz.underlying95 Tryz.underlying9 (h6.em.at (nO.block e h6.em.lt))
  rw[show Value.agg (ae x0.1 (touched x0.2 f la su))=Value.agg (cZ (x0.1,touched x0.2 f la su)) from rfl,Vt hg hx0 MG]at DN
  have rG:But (one e) V6 V8:=(But.of_below nO).trans ⟨hb8.os,hb8.tape,hb8.output,hb8.size,hb8.block⟩
  refine bZ (by rfl) (by rfl) (fun K hK=>?_)
  go_wp2_with fail
  refine hK _ _ (fU rG) ?_
  clear hK K
  repeat (first|(refine ai (by rfl) ?_)|(refine bC (by rfl) (by rfl) (fun K hK=>?_);go_big_quiet_op;refine hK _ ?_;clear hK K))
  refine bz ?_
  have ku:V8.heap[b]?=some (.cells (lN re s n e p) 100):=(rG.block b hl e3).trans h6.box
  obtain⟨ru,yO,KH,KI⟩:=ax ku
  have hc91:=ru 1
  have yP:=yO 1
  go_wp2_with fail
  refine(CJ b s V8 hc91 yP hs0 hs1).mono ?_
  rintro z w' ⟨rfl,rfl⟩
  dsimp only
  have DC:But (aW b n e p) w V8:=(But.of_below xy).trans (rG.mono fun k hk=>.inr (.inr (.inl hk)))
  have vO:=dH (o:=1) (.int .i64 (s+1)) ku
  rw[CG]at vO
  have hoth:∀k,k≠b→(V8.setCell ⟨b,1,none⟩ (.int .i64 (s+1))).heap[k]?=V8.heap[k]?:=fun k hk=>Below.heap_setCell _ _ _ _ hk
  have hnb:n≠b:=fun e'=>jo h6.box h6.nm e'.symm
  have heb:e≠b:=fun e'=>jo h6.box h6.em e'.symm
  have hpb:p≠b:=fun e'=>jo h6.box h6.pm e'.symm
  have h8:=dG.mk vO (h6.nm.at ((hoth n hnb).trans (rG.block n h6.nm.lt (bU h.ne.1)))) (DN.at (hoth e heb)) (h6.pm.at ((hoth p hpb).trans (rG.block p h6.pm.lt (bU (Ne.symm h.ne.2.2))))) h.ne
  have MH:=Vy (o:=1) (v:=.int .i64 (s+1)) DC (.inl (.inl rfl))
  go_wp2_with fail
  go_ret
  exact⟨rfl,MH,h8⟩
end Go.Proofs.YtpfifochimkpfaaGreatDoor
