/- A part of the proof. -/
import Derived.Test.YtfieenjdcpjmgaaGreatDoorA31
import Derived.Test.YtfieenjdcpjmgaaGreatDoorA32
set_option maxRecDepth 100000
set_option maxHeartbeats 16000000
namespace Go.WW
open Go.RowKit
def Jc:ByteArray:=⟨#[1,82,0,0,0,0,0,0,0,0,0,0,0,0,0,0,0,0,0]⟩
theorem ZM(r:aN)(d:Entry)(v:ByteArray):(ae r d).setIfInBounds 6 (.string v)=ae r {d with aO:=v}:=by kernel_rfl
theorem an9:jd (eu bg)=I8:=by decide +kernel
end Go.WW
namespace Go.Proofs.YtfieenjdcpjmgaaGreatDoor
open Go.RowKit Go.WW
theorem aoa(w:World):∃cap w',(convert 9 61 (.string Jc)).run Tryz.prog w=.ok (.slice (some ⟨w.heap.size,0,none⟩) 19 cap) w'∧Below w.heap.size w w'∧BytesAt w' (some ⟨w.heap.size,0,none⟩) badL∧19≤cap∧cap≤9223372036854775807:=by
 have h1:=run_bytes_of_string w 9 61 5 Jc Tryz.underlying9 Tryz.underlying61 Tryz.underlying5
 refine⟨_,_,h1,aj (Below.refl _ _).drew _,⟨by decide,fun i hi=>?_⟩,grownCap_ge _ _ _ _,?_⟩
 ·have aob:i<19:=hi
  refine⟨_,_,_,rfl,?_,badL[i],List.getElem?_eq_getElem hi,rfl⟩
  rw[show(w.drew.alloc _).cell? ⟨w.heap.size,0+i,none⟩=_ from cell_of_row (w.drew.alloc _) w.drew.heap.size (0+i) _ _ _ (World.alloc_heap_new w.drew _),Nat.zero_add,bytesRow_at Jc _ i aob]
  rfl
 ·exact grownCap_le_maxLen w 19 0 5 (by decide)
theorem aoc{y:World}{k:Nat}{s:Sl}{q:az}(hx:y.heap[k]?=some (.cells (ai s q) 40))(h:bz y s q):fF y (some ⟨k,0,none⟩) [q]:=by
 refine⟨by simp[lim],fun i hi=>?_⟩
 obtain rfl:i=0:=by simpa using hi
 exact⟨_,_,_,rfl,by rw[bP hx];exact dm (xX s q),q,s,rfl,rfl,h⟩
theorem aod(ρ:Operand→Value)(dst:Option Tmp)(x y z:Operand)(ty:TypeId)(pos:String)(after:Array Edge)(guard:Option (Nat×Bool)) :
  execOp ρ {dst,op:=.build 50 #[(0,x),(1,y),(2,z)],type:=ty,pos,after,guard}=jf 50 #[(0,ρ x),(1,ρ y),(2,ρ z)]:=by simp[execOp,jf]
theorem aoe(w:World):(jf 50 #[(0,.string ⟨#[115,116,97,102,102]⟩),(1,.int .i64 1),(2,.int .i64 1)]).run Tryz.prog w=.ok (.value (.agg (aG ES))) w:=by kernel_rfl
def lJ(S:Nat→Prop)(b n e p:Nat)(s:Int)(D:Db)(X:List EE)(w:World):Prop:=∃NL E P,jB S b n e p bg s NL E P w∧fJ D X NL E P
def uK(S:Nat→Prop)(b n e p:Nat)(s:Int)(D:Db)(X:List EE)(no:Int)(w:World)(z:Ending)(w':World):Prop:=z=.returned (.int .i64 no)∧But (aU b n e p) w w'∧lJ S b n e p s D X w'
section
variable {S:Nat→Prop} {b n e p:Nat} {s s':Int} {D D':Db} {X X':List EE} {no:Int} {w:World}
theorem lJ.later(h:lJ S b n e p s D X w){w':World}(hb:Below w.heap.size w w'):lJ S b n e p s D X w':=by
 obtain⟨NL,E,P,h1,h2⟩:=h
 exact⟨NL,E,P,h1.later hb,h2⟩
theorem lJ.off(h:lJ S b n e p s D X w){T:Nat→Prop}{w':World}(hb:But T w w')(hT:∀k,T k→S k∧¬aU b n e p k):lJ S b n e p s D X w':=by
 obtain⟨NL,E,P,h1,h2⟩:=h
 exact⟨NL,E,P,h1.off hb (fun k hk=>(hT k hk).1) (fun k hk=>(hT k hk).2),h2⟩
theorem lJ.lt(h:lJ S b n e p s D X w):∀k,aU b n e p k→k<w.heap.size:=by
 obtain⟨NL,E,P,h1,h2⟩:=h
 exact h1.lt
theorem uK.of{z:Ending}{w':World}(he:s'=s+(D'.ay-D.ay))(h:xm S b n e p bg s D D' X' no w z w'):uK S b n e p s' D' X' no w z w':=by
 obtain⟨h1,h2,NL,E,P,h3,h4⟩:=h
 rw[←he]at h3
 exact⟨h1,h2,NL,E,P,h3,h4⟩
theorem Jd(h:lJ S b n e p s D X w)(r:aN)(d:Entry)(r2:aN)(hDr:D.aF=bg)(hst:kM D X r d no D' X')(he:bJ w r2 d)(hlt:∀k,S k→k<w.heap.size)(hn:X.length<4096)(hs0:0≤s)(hs1:s<1000000)(hs:s'=s+(D'.ay-D.ay)) :
  Calls Tryz.prog 23 #[.pointer (some ⟨b,0,none⟩),.agg (ae r2 d)] w (uK S b n e p s' D' X' no w):=by
 obtain⟨NL,E,P,h1,h2⟩:=h
 exact(WA S b n e p bg s NL E P D D' X X' no w r d r2 h1 lG hDr h2 hst he hlt hn hs0 hs1).mono fun z w' hz=>uK.of hs hz
theorem aof(h:lJ S b n e p s D X w)(q:ah)(hst:mQ D q no D')(hq:q.name.size≤lim)(hn:D.ax.length<64)(hs0:0≤s)(hs1:s<1000000)(hs:s'=s+(D'.ay-D.ay)) :
  Calls Tryz.prog 29 #[.pointer (some ⟨b,0,none⟩),.agg (aG q)] w (uK S b n e p s' D' X no w):=by
 obtain⟨NL,E,P,h1,h2⟩:=h
 exact(WB S b n e p bg s NL E P D D' X no w q h1 lG h2 hst hq (by have:=h2.dQ.perm.length_eq;omega) hs0 hs1).mono fun z w' hz=>uK.of hs hz
theorem aog(h:lJ S b n e p s D X w)(t:Sl)(q:az)(hst:rM D X q no D' X')(hq:bz w t q)(hs0:0≤s)(hs1:s<1000000)(hs:s'=s+(D'.ay-D.ay)) :
  Calls Tryz.prog 28 #[.pointer (some ⟨b,0,none⟩),.agg (ai t q)] w (uK S b n e p s' D' X' no w):=by
 obtain⟨NL,E,P,h1,h2⟩:=h
 exact(WC S b n e p bg s NL E P D D' X X' no w t q h1 lG h2 hst hq hs0 hs1).mono fun z w' hz=>uK.of hs hz
theorem aoh(h:lJ S b n e p s D X w)(k:ByteArray)(hst:qj D k no D')(hs0:0≤s)(hs1:s<1000000)(hs:s'=s+(D'.ay-D.ay)) :
  Calls Tryz.prog 30 #[.pointer (some ⟨b,0,none⟩),.string k] w (uK S b n e p s' D' X no w):=by
 obtain⟨NL,E,P,h1,h2⟩:=h
 exact(WE S b n e p bg s NL E P D D' X no w k h1 lG h2 hst hs0 hs1).mono fun z w' hz=>uK.of hs hz
theorem ZN{r:aN}{NL:List (ByteArray×ByteArray)}{E:List EE}{P:List ah}(hR:fJ wu [(r,fE)] NL E P):∃x0∈E,x0.2=fE∧(eP pO,textOf x0.2.name)∈NL:=by
 rcases hR.found pO with⟨h0,-⟩|⟨i,hi,-,x0,hx,e0,hk⟩
 ·exact absurd h0 (by decide +kernel)
 ·obtain rfl:i=0:=by simpa using hi
  exact⟨x0,hx,e0,hk⟩
theorem aoi{r:aN}(h:lJ S b n e p s wu [(r,fE)] w)(t:Sl)(hq:bz w t pO) :
  Calls Tryz.prog 24 #[.pointer (some ⟨b,0,none⟩),.agg (ai t pO)] w fun z w'=>∃r',z=.returned (.tuple #[.agg (ae r' fE),.int .i64 0])∧Below w.heap.size w w'∧bJ w' r' fE:=by
 obtain⟨NL,E,P,h1,h2⟩:=h
 obtain⟨x0,hx,e0,hk⟩:=ZN h2
 rw[←e0]
 refine(anv b n e p bg s NL E P t pO w h1.db lG hq x0 hx hk (h1.keep x0 hx).out).mono ?_
 rintro z W1 ⟨r',rfl,hb1,hd1⟩
 exact⟨r',rfl,hb1,(hd1 W1 (fun _ _=>rfl)).at_⟩
theorem aoj{r:aN}(h:lJ S b n e p s wu [(r,fE)] w)(t:Sl)(hq:bz w t pO) :
  Calls Tryz.prog 25 #[.pointer (some ⟨b,0,none⟩),.agg (ai t pO)] w fun z w'=>∃s':Sl,z=.returned (.tuple #[.agg (ai s' sG),.int .i64 0])∧Below w.heap.size w w'∧bz w' s' sG:=by
 obtain⟨NL,E,P,h1,h2⟩:=h
 obtain⟨x0,hx,e0,hk⟩:=ZN h2
 have:=anw b n e p bg s NL E P t pO w h1.db lG hq x0 hx hk (h1.keep x0 hx).out
 rw[e0]at this
 exact this
theorem aok(h:lJ S b n e p s D X w):Calls Tryz.prog 12 #[.pointer (some ⟨b,0,none⟩)] w fun z w'=>z=.returned (.int .i64 s)∧w=w':=by
 obtain⟨NL,E,P,h1,h2⟩:=h
 exact Zt b n e p bg s _ E P w h1.db lG
end
structure qB(w W9:World)(n4 B6:Nat)(S:Nat→Prop)(b n e p:Nat)(s:Int)(D:Db)(X:List EE)(v:World):Prop where
 db:lJ S b n e p s D X v
 out:Below w.heap.size w v
 st:∀k,n4≤k→k<B6→v.heap[k]?=W9.heap[k]?
 sz:B6+1<v.heap.size
 of:∀k,aU b n e p k→w.heap.size≤k∧k<n4
 le:n4≤B6
 zI:S B6∧∀k,S k→k<B6+1
section
variable {w W9 v v':World} {n4 B6:Nat} {S:Nat→Prop} {b n e p:Nat} {s s':Int} {D D':Db} {X X':List EE}
theorem qB.call(h:qB w W9 n4 B6 S b n e p s D X v)(hu:But (aU b n e p) v v')(hk:lJ S b n e p s' D' X' v'):qB w W9 n4 B6 S b n e p s' D' X' v':=
 ⟨hk,((But.of_below (S:=fun j=>w.heap.size≤j) h.out).trans (hu.mono fun j hj=>(h.of j hj).1)).below (Nat.le_refl _) fun j hj=>hj,
  fun k h1 h2=>(hu.block k (by have:=h.sz;omega) fun hj=>by have:=(h.of k hj).2;omega).trans (h.st k h1 h2),Nat.lt_of_lt_of_le h.sz hu.size,h.of,h.le,h.zI⟩
theorem qB.later(h:qB w W9 n4 B6 S b n e p s D X v)(hb:Below v.heap.size v v'):qB w W9 n4 B6 S b n e p s D X v':=h.call (But.of_below hb) (h.db.later hb)
theorem qB.blk(h:qB w W9 n4 B6 S b n e p s D X v)(hu:But (aU b n e p) v v'){k:Nat}{o:Obj}(hx:v.heap[k]?=some o)(hk:B6≤k):v'.heap[k]?=some o:=
 (hu.block k (Array.getElem?_eq_some_iff.1 hx).1 fun hj=>by have:=(h.of k hj).2;have:=h.le;omega).trans hx
theorem qB.set(h:qB w W9 n4 B6 S b n e p s D X v)(o:Nat)(x:Value):qB w W9 n4 B6 S b n e p s D X (v.setCell ⟨B6,o,none⟩ x):=
 have hu:=yV v B6 o x
 have hn:¬aU b n e p B6:=fun hj=>by have:=(h.of B6 hj).2;have:=h.le;omega
 ⟨h.db.off hu fun k (hk:k=B6)=>⟨hk▸h.zI.1,hk▸hn⟩,h.out.setCell (show w.heap.size≤B6 by have:=(h.of b (.inl rfl)).1;have:=(h.of b (.inl rfl)).2;have:=h.le;omega) _,
  fun k h1 h2=>(hu.block k (by have:=h.sz;omega) fun hj=>by have:k=B6:=hj;omega).trans (h.st k h1 h2),Nat.lt_of_lt_of_le h.sz hu.size,h.of,h.le,h.zI⟩
end
attribute [local go_sem] anO anK aoe ZM
attribute [local go_sem ↓] anN anL aod
attribute [local irreducible] an5 an6 an7 an8
theorem PG(w:World)(hT:uI Tryz.prog w):Calls Tryz.prog 6 #[] w fun z w'=>z=.returned (.bool true)∧Below w.heap.size w w':=by
 have HT:=Lib.hid hT
 clear hT
 go_enter Tryz.func6,Tryz.ntmps6
 go_wp2_with fail
 refine(Gn bg w (by simp[lim,ByteArray.size]) AQ).mono ?_
 rintro z w1 ⟨b,n,e,p,rfl,hb1,jR,u1,u2,u3,u4⟩
 have HU:=Lib.hid (show ∀k,aU b n e p k→w.heap.size≤k from by rintro k (rfl|rfl|rfl|rfl)<;>assumption)
 dsimp only
 go_wp2_with fail
 refine(oz _ _).mono ?_
 rintro z w' ⟨rfl,rfl⟩
 dsimp only
 obtain⟨cap,w2,hcv,hb2,hB2,hc1,hc2⟩:=aoa w1
 rw[show Jc=(⟨#[1,82,0,0,0,0,0,0,0,0,0,0,0,0,0,0,0,0]⟩:ByteArray)++⟨#[0]⟩ from by decide +kernel]at hcv
 go_wp2_with fail
 refine(anT w1.heap.size cap w2 hB2 hc1 hc2 (jo HT.out (ag hb1 hb2))).mono ?_
 rintro z w3 ⟨rfl,hb3⟩
 dsimp only
 have BI:=Lib.hid (jR.later (ag hb2 hb3))
 have HB:=Lib.hid (ag hb1 (ag hb2 hb3))
 clear hcv hB2 hc1 hc2 u1 u2 u3 u4 jR hb1 hb2 hb3
 go_wp2_with fail
 refine(IZ (Nz BI.out (fun k hk=>hk) BI.out.Be) (by omega) (by simp) (by simp[eu]) (jo HT.out HB.out)).mono ?_
 rintro z w4 ⟨za,rfl,hb4,hd4⟩
 have k1:=pK za.a za.cap (jd (eu bg)) w4 hd4.out
 rw[an9]at k1 ⊢
 have Je:=Lib.hid (BI.out.later hb4)
 have HB4:=Lib.hid (ag HB.out hb4)
 clear hd4 hb4 BI HB
 dsimp only
 go_wp2_with fail
 refine(oz _ _).mono ?_
 rintro z w' ⟨rfl,rfl⟩
 clear k1
 dsimp only
 go_wp2_with fail
 refine(BJ ⟨#[97]⟩ w4 (by simp[lim,ByteArray.size])).mono ?_
 rintro z w5 ⟨ta,rfl,hb5,ZO⟩
 dsimp only
 go_wp2_with fail
 refine(BJ ⟨#[98]⟩ w5 (by simp[lim,ByteArray.size])).mono ?_
 rintro z w6 ⟨tb,rfl,hb6,ZP⟩
 have hbx2:=fun w=>anM ta ⟨[⟨#[97]⟩],bg⟩ ⟨[⟨#[98]⟩],bg⟩ ⟨w6.heap.size,0,none⟩ w
 dsimp only
 go_wp2_with fail
 refine(BJ ⟨#[98]⟩ _ (by simp[lim,ByteArray.size])).mono ?_
 rintro z w8 ⟨tc,rfl,hb8,ZQ⟩
 dsimp only
 go_wp2_with fail
 rw[←rq,show EP ⟨[⟨#[97]⟩],bg⟩ [⟨[⟨#[98]⟩],bg⟩]=fE from rfl,show EP ⟨[⟨#[98]⟩],bg⟩ []=vZ from rfl]
 clear hbx2
 obtain⟨RA,PH⟩:∃R,R=EO ta ⟨some ⟨w6.heap.size,0,none⟩,1⟩:=⟨_,rfl⟩
 obtain⟨RC,PI⟩:∃R,R=EO tc aW:=⟨_,rfl⟩
 rw[←PH,←PI]
 have A0:=jQ w8 (.cells (ae dh bI) 47) (.cells (ae dh bI) 47)
 have A1:=World.alloc_heap_new (w8.alloc (.cells (ae dh bI) 47)) (.cells (ae dh bI) 47)
 rw[World.size_alloc]at A1
 have P0:=mD (o:=0) (cs:=ae RA fE) A0 (by simp[go_sem])
 rw[tq (by simp[go_sem])]at P0
 have P1:=mD (o:=0) (cs:=ae RC vZ) ((iD (b:=w8.heap.size) (o:=0) (cs:=ae RA fE) (by omega)).trans A1) (by simp[go_sem])
 rw[tq (by simp[go_sem])]at P1
 have P2:=(iD (b:=w8.heap.size+1) (o:=0) (cs:=ae RC vZ) (by omega)).trans P0
 have Jf:=Go.WW.Below.putRow (o:=0) (cs:=ae RC vZ) (Go.WW.Below.putRow (o:=0) (cs:=ae RA fE) (aj (aj (Below.refl _ w8) (.cells (ae dh bI) 47)) (.cells (ae dh bI) 47)) (Nat.le_refl w8.heap.size)) (Nat.le_succ w8.heap.size)
 generalize (putRow (putRow ((w8.alloc (.cells (ae dh bI) 47)).alloc (.cells (ae dh bI) 47)) w8.heap.size 0 (ae RA fE)) (w8.heap.size+1) 0 (ae RC vZ))=W9 at *
 have Jg:Below w6.heap.size w6 W9:=ag (aj (Below.refl _ w6) (.cells (ai tb ⟨[⟨#[98]⟩],bg⟩) 40)) (ag hb8 Jf)
 have PK:=ag hb5 (ag hb6 Jg)
 have hq6:=aJ (ag hb8 Jf) (World.alloc_heap_new w6 (.cells (ai tb ⟨[⟨#[98]⟩],bg⟩) 40))
 have z5:=hb5.size
 have z6:=hb6.size
 have z8:w6.heap.size+1≤w8.heap.size:=by have:=hb8.size;rwa[World.size_alloc]at this
 have HE:=Lib.hid (show ∀y:World,(∀k,w4.heap.size≤k→k<w8.heap.size→y.heap[k]?=W9.heap[k]?)→bJ y RA fE∧bJ y RC vZ from fun y hy=>by
  rw[PH,PI]
  have dA:=ZO y fun k hk=>(hy k hk.1 (by have:=hk.2;omega)).trans ((ag hb6 Jg).block k hk.2)
  have dB:=ZP y fun k hk=>(hy k (by have:=hk.1;omega) (by have:=hk.2;omega)).trans (Jg.block k hk.2)
  have dC:=ZQ y fun k hk=>(hy k (by have:=hk.1;rw[World.size_alloc]at this;omega) hk.2).trans (Jf.block k hk.2)
  exact⟨ZA (a:=⟨some ⟨w6.heap.size,0,none⟩,1⟩) dA (aoc ((hy _ (by omega) (by omega)).trans hq6) dB),ZA (a:=aW) dC (Us y).aliases⟩)
 have zJ:qB w W9 w4.heap.size w8.heap.size (fun k=>aU b n e p k∨k=w8.heap.size) b n e p 0 (eu bg) [] W9:=by
  refine⟨⟨[],[],[],⟨Je.out.later PK,by simp,fun k hk=>.inl hk⟩,Me⟩,ag HB4.out PK,fun k _ _=>rfl,(Array.getElem?_eq_some_iff.1 P1).1,fun k hk=>⟨HU.out k hk,Je.out.Be k hk⟩,by omega,.inr rfl,fun k hk=>?_⟩
  rcases hk with hk|hk
  ·have:=Je.out.Be k hk;omega
  ·omega
 clear PH PI A0 A1 P0 hb5 hb6 hb8 Jf PK ZO ZP ZQ hq6 HB4 Je Jg z5 z6 z8
 generalize w4.heap.size=n4 at *
 generalize w8.heap.size=B6 at *
 generalize (fun k=>aU b n e p k∨k=B6)=S at *
 refine(Jd (s':=1) zJ.db RA fE RA rfl (k1 RA) (HE.out W9 fun _ _ _=>rfl).1 (fun k hk=>by have:=zJ.zI.2 k hk;have:=zJ.sz;omega) (by simp) (by omega) (by omega) rfl).mono ?_
 rintro z w10 ⟨rfl,Jh,hk10⟩
 have zK:=Lib.hid (zJ.call Jh hk10)
 have o6:=zJ.blk Jh P2 (Nat.le_refl _)
 have o7:=zJ.blk Jh P1 (Nat.le_succ _)
 clear zJ Jh hk10 P1 P2
 obtain⟨xc,xf,xr,xl⟩:=aC o7
 have yK:row? w10 (B6+1) 0 17=some (ae RC vZ):=by rw[bP o7];exact dm (by simp[go_sem])
 dsimp only
 go_wp2_with fail
 refine(oz _ _).mono ?_
 rintro z w' ⟨rfl,rfl⟩
 dsimp only
 go_wp2_with fail
 refine(Jd (s':=1) zK.out.db RC vZ RC rfl (k2 RA RC) (HE.out w10 zK.out.st).2 (fun k hk=>by have:=zK.out.zI.2 k hk;have:=zK.out.sz;omega) (by simp) (by omega) (by omega) rfl).mono ?_
 rintro z w11 ⟨rfl,Bd,ZR⟩
 have ZT:=Lib.hid (zK.out.call Bd ZR)
 have p6:=zK.out.blk Bd o6 (Nat.le_refl _)
 clear zK Bd ZR o6 o7 xc xf xr xl yK
 dsimp only
 go_wp2_with fail
 refine(oz _ _).mono ?_
 rintro z w' ⟨rfl,rfl⟩
 dsimp only
 go_wp2_with fail
 refine(BJ ⟨#[98]⟩ _ (by simp[lim,ByteArray.size])).mono ?_
 rintro z w12 ⟨td,rfl,dW,ZU⟩
 have Ji:=Lib.hid (ZT.out.later dW)
 have q6:=aJ dW p6
 clear ZT p6 dW
 dsimp only
 go_wp2_with fail
 refine(aoi Ji.out.db td ZU.out).mono ?_
 rintro z EZ ⟨r',rfl,kU,ZV⟩
 have hbv:=aj kU (.cells (ae r' fE) 47)
 have o8:=World.alloc_heap_new EZ (.cells (ae r' fE) 47)
 have PM:=Lib.hid (Ji.out.later hbv)
 have p6:=aJ hbv q6
 have ZW:=ZV.later (aj (Below.refl _ EZ) (.cells (ae r' fE) 47))
 have g8:B6<EZ.heap.size:=by have:=Ji.out.sz;have:=kU.size;omega
 clear Ji q6 kU hbv ZU ZV
 dsimp only
 go_wp2_with fail
 generalize (EZ.alloc (.cells (ae r' fE) 47))=V13 at *
 generalize EZ.heap.size=B8 at *
 have ZX:=Lib.hid ZW
 clear ZW
 refine(BJ ⟨#[98]⟩ _ (by simp[lim,ByteArray.size])).mono ?_
 rintro z w14 ⟨te,rfl,oq,ZY⟩
 dsimp only
 go_wp2_with fail
 refine(aoj (PM.out.later oq).db te ZY.out).mono ?_
 rintro z E5 ⟨s',rfl,vP,ZZ⟩
 have hbv:=aj (ag oq vP) (.cells (ai s' sG) 40)
 have Z4:=World.alloc_heap_new E5 (.cells (ai s' sG) 40)
 have PN:=Lib.hid (PM.out.later hbv)
 have q6:=aJ hbv p6
 have q8:=aJ hbv o8
 have Bq:=Lib.hid (ZX.out.later hbv)
 have Z5:=Lib.hid (ZZ.later (aj (Below.refl _ E5) (.cells (ai s' sG) 40)))
 have g10:B8<E5.heap.size:=by have:=(Array.getElem?_eq_some_iff.1 o8).1;have:=oq.size;have:=vP.size;omega
 clear PM ZX oq vP ZY ZZ hbv p6 o8
 dsimp only
 go_wp2_with fail
 generalize (E5.alloc (.cells (ai s' sG) 40))=BL at *
 generalize E5.heap.size=B10 at *
 refine(oz _ _).mono ?_
 rintro z w' ⟨rfl,rfl⟩
 dsimp only
 go_wp2_with fail
 refine(oz _ _).mono ?_
 rintro z w' ⟨rfl,rfl⟩
 have xQ:row? BL B6 0 17=some (ae RA fE):=by rw[bP q6];exact dm (by simp[go_sem])
 have og:row? BL B8 0 17=some (ae r' fE):=by rw[bP q8];exact dm (by simp[go_sem])
 have l6:B6<BL.heap.size:=(Array.getElem?_eq_some_iff.1 q6).1
 have l8:B8<BL.heap.size:=(Array.getElem?_eq_some_iff.1 q8).1
 dsimp only
 go_wp2_with fail
 refine(an0 RA r' fE fE BL (HE.out BL PN.out.st).1 Bq.out).mono ?_
 rintro z w16 ⟨rfl,hb16⟩
 rw[anZ]
 have PO:=Lib.hid (PN.out.later hb16)
 have p6:=aJ hb16 q6
 have p10:=aJ hb16 Z4
 have Z7:=Lib.hid (Z5.out.later hb16)
 clear PN Bq Z5 q6 q8 Z4 xQ og l6 l8 hb16
 have xQ:row? w16 B6 0 17=some (ae RA fE):=by rw[bP p6];exact dm (by simp[go_sem])
 have aol:row? w16 B6 0 2=some (ai RA.parts sG):=(Gj xQ (by omega)).trans (Fg RA fE)
 have XN:row? w16 B10 0 2=some (ai s' sG):=by rw[bP p10];exact dm (by simp[go_sem])
 have l6:B6<w16.heap.size:=(Array.getElem?_eq_some_iff.1 p6).1
 have l10:B10<w16.heap.size:=(Array.getElem?_eq_some_iff.1 p10).1
 dsimp only
 go_wp2_with fail
 refine(oL s' RA.parts sG sG w16 Z7.out (HE.out w16 PO.out.st).1.name).mono ?_
 rintro z w17 ⟨rfl,Bv⟩
 rw[PE]
 have Z8:=Lib.hid (PO.out.later Bv)
 have q6:=aJ Bv p6
 clear PO Z7 p6 p10 xQ aol XN l6 l10 Bv
 dsimp only
 go_wp2_with fail
 refine(BJ ⟨#[98]⟩ _ (by simp[lim,ByteArray.size])).mono ?_
 rintro z w18 ⟨tf,rfl,Bz,Z9⟩
 have Jj:=Lib.hid (Z8.out.later Bz)
 have p6:=aJ Bz q6
 clear Z8 q6 Bz
 dsimp only
 go_wp2_with fail
 refine(aog (s':=1) Jj.out.db tf pO (k3 RA) Z9.out (by omega) (by omega) rfl).mono ?_
 rintro z wz ⟨rfl,PQ,aab⟩
 have Jk:=Lib.hid (Jj.out.call PQ aab)
 have q6:=Jj.out.blk PQ p6 (Nat.le_refl _)
 clear Jj p6 PQ aab Z9
 dsimp only
 go_wp2_with fail
 refine(oz _ _).mono ?_
 rintro z w' ⟨rfl,rfl⟩
 dsimp only
 go_wp2_with fail
 refine(aok Jk.out.db).mono ?_
 rintro z w' ⟨rfl,rfl⟩
 obtain⟨xc,xf,xr,xl⟩:=aC q6
 have s6:(wz.setCell ⟨B6,6,none⟩ (.string ⟨#[115,116,97,102,102]⟩)).heap[B6]?=some (.cells (ae RA qx) 47):=by
  have:=dF (o:=6) (.string ⟨#[115,116,97,102,102]⟩) q6
  rw[ZM]at this
  exact this
 have aac:=Lib.hid (Jk.out.set 6 (.string ⟨#[115,116,97,102,102]⟩))
 have xQ:row? (wz.setCell ⟨B6,6,none⟩ (.string ⟨#[115,116,97,102,102]⟩)) B6 0 17=some (ae RA qx):=by rw[bP s6];exact dm (by simp[go_sem])
 dsimp only
 go_wp2_with fail
 rw[show({qx with aO:=⟨#[120]⟩}:Entry)=zH from rfl]
 have PR:=World.alloc_heap_new (wz.setCell ⟨B6,6,none⟩ (.string ⟨#[115,116,97,102,102]⟩)) (.cells (ae RA zH) 47)
 have hbv:=aj (Below.refl _ (wz.setCell ⟨B6,6,none⟩ (.string ⟨#[115,116,97,102,102]⟩))) (.cells (ae RA zH) 47)
 have E8:=Lib.hid (aac.out.later hbv)
 have p6:=aJ hbv s6
 have z12:(wz.setCell ⟨B6,6,none⟩ (.string ⟨#[115,116,97,102,102]⟩)).heap.size=wz.heap.size:=by simp[World.setCell]
 rw[z12]at PR
 have g12:B6≤wz.heap.size:=by have:=Jk.out.sz;omega
 clear Jk aac q6 xc xf xr xl s6 xQ hbv z12
 generalize ((wz.setCell ⟨B6,6,none⟩ (.string ⟨#[115,116,97,102,102]⟩)).alloc (.cells (ae RA zH) 47))=V21 at *
 generalize wz.heap.size=B12 at *
 have hEP:∀(y:World) (s:ByteArray),s.size≤lim→bJ y RA fE→bJ y RA {fE with aO:=s}:=fun y s hs h=>⟨h.name,h.aliases,h.keys,h.targets,h.bu,h.history,hs,h.attrs⟩
 have HEP:=Lib.hid hEP
 clear hEP
 refine(aof (s':=2) E8.out.db ES k4 (by decide) (by decide) (by omega) (by omega) rfl).mono ?_
 rintro z PS ⟨rfl,Jl,aag⟩
 have zL:=Lib.hid (E8.out.call Jl aag)
 have q6:=E8.out.blk Jl p6 (Nat.le_refl _)
 have q12:=E8.out.blk Jl PR g12
 have xQ:row? PS B6 0 17=some (ae RA qx):=by rw[bP q6];exact dm (by simp[go_sem])
 have l6:B6<PS.heap.size:=(Array.getElem?_eq_some_iff.1 q6).1
 clear E8 p6 PR Jl aag
 dsimp only
 go_wp2_with fail
 refine(oz _ _).mono ?_
 rintro z w' ⟨rfl,rfl⟩
 dsimp only
 go_wp2_with fail
 refine(Jd (s':=3) zL.out.db RA qx RA rfl (k5 RA RA) (HEP.out _ ER (by decide) (HE.out PS zL.out.st).1) (fun k hk=>by have:=zL.out.zI.2 k hk;have:=zL.out.sz;omega) (by simp) (by omega) (by omega) rfl).mono ?_
 rintro z w23 ⟨rfl,PT,aah⟩
 have Jm:=Lib.hid (zL.out.call PT aah)
 have p12:=zL.out.blk PT q12 g12
 clear zL q6 q12 xQ l6 PT aah
 dsimp only
 go_wp2_with fail
 refine(oz _ _).mono ?_
 rintro z w' ⟨rfl,rfl⟩
 dsimp only
 go_wp2_with fail
 refine(aoh (s':=3) Jm.out.db ER k6 (by omega) (by omega) rfl).mono ?_
 rintro z PU ⟨rfl,PV,aai⟩
 have BM:=Lib.hid (Jm.out.call PV aai)
 have q12:=Jm.out.blk PV p12 g12
 have aom:row? PU B12 0 17=some (ae RA zH):=by rw[bP q12];exact dm (by simp[go_sem])
 have l12:B12<PU.heap.size:=(Array.getElem?_eq_some_iff.1 q12).1
 clear Jm p12 PV aai
 dsimp only
 go_wp2_with fail
 refine(oz _ _).mono ?_
 rintro z w' ⟨rfl,rfl⟩
 dsimp only
 go_wp2_with fail
 refine(Jd (s':=3) BM.out.db RA zH RA rfl (k7 RA RA) (HEP.out _ ⟨#[120]⟩ (by decide) (HE.out PU BM.out.st).1) (fun k hk=>by have:=BM.out.zI.2 k hk;have:=BM.out.sz;omega) (by simp) (by omega) (by omega) rfl).mono ?_
 rintro z w25 ⟨rfl,aaj,aak⟩
 have aon:=Lib.hid (BM.out.call aaj aak)
 clear BM q12 aom l12 aaj aak
 dsimp only
 go_wp2_with fail
 refine(oz _ _).mono ?_
 rintro z w' ⟨rfl,rfl⟩
 dsimp only
 go_wp2_with fail
 go_ret
 exact⟨rfl,aon.out.out⟩
end Go.Proofs.YtfieenjdcpjmgaaGreatDoor
