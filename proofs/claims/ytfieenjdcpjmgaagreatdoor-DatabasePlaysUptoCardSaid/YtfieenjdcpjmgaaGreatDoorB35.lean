/- A part of the proof. -/
import Derived.Test.YtfieenjdcpjmgaaGreatDoorB33
import Derived.Test.YtfieenjdcpjmgaaGreatDoorB34
import Derived.Test.YtfieenjdcpjmgaaGreatDoorB25
set_option maxRecDepth 100000
set_option maxHeartbeats 16000000
namespace Go.WW
open Go.RowKit
def Jn:ByteArray:=⟨#[1,82,0,0,0,0,0,0,0,0,0,0,0,0,0,0,0,0,0]⟩
theorem aaq(r:aN)(d:Entry)(v:ByteArray):(ae r d).setIfInBounds 6 (.string v)=ae r {d with aO:=v}:=by kernel_rfl
theorem aoK:pR (eQ dH)=Jj:=by decide +kernel
end Go.WW
namespace Go.Proofs.YtfieenjdcpjmgaaGreatDoor
open Go.RowKit Go.WW
theorem aoL(w:World):∃cap w',(convert 9 61 (.string Jn)).run Tryz.prog w=.ok (.slice (some ⟨w.heap.size,0,none⟩) 19 cap) w'∧Below w.heap.size w w'∧BytesAt w' (some ⟨w.heap.size,0,none⟩) badL∧19≤cap∧cap≤9223372036854775807:=by
 have h1:=run_bytes_of_string w 9 61 5 Jn Tryz.underlying9 Tryz.underlying61 Tryz.underlying5
 refine⟨_,_,h1,aj (Below.refl _ _).drew _,⟨by decide,fun i hi=>?_⟩,grownCap_ge _ _ _ _,?_⟩
 ·have aoM:i<19:=hi
  refine⟨_,_,_,rfl,?_,badL[i],List.getElem?_eq_getElem hi,rfl⟩
  rw[show(w.drew.alloc _).cell? ⟨w.heap.size,0+i,none⟩=_ from cell_of_row (w.drew.alloc _) w.drew.heap.size (0+i) _ _ _ (World.alloc_heap_new w.drew _),Nat.zero_add,bytesRow_at Jn _ i aoM]
  rfl
 ·exact grownCap_le_maxLen w 19 0 5 (by decide)
theorem aoN{y:World}{k:Nat}{s:Sl}{q:az}(hx:y.heap[k]?=some (.cells (ah s q) 40))(h:bn y s q):fJ y (some ⟨k,0,none⟩) [q]:=by
 refine⟨by simp[lim],fun i hi=>?_⟩
 obtain rfl:i=0:=by simpa using hi
 exact⟨_,_,_,rfl,by rw[bQ hx];exact df (uN s q),q,s,rfl,rfl,h⟩
theorem aoO(ρ:Operand→Value)(dst:Option Tmp)(x y z:Operand)(ty:TypeId)(pos:String)(after:Array Edge)(guard:Option (Nat×Bool)) :
  execOp ρ {dst,op:=.build 50 #[(0,x),(1,y),(2,z)],type:=ty,pos,after,guard}=iq 50 #[(0,ρ x),(1,ρ y),(2,ρ z)]:=by simp[execOp,iq]
theorem aoP(w:World):(iq 50 #[(0,.string ⟨#[115,116,97,102,102]⟩),(1,.int .i64 1),(2,.int .i64 1)]).run Tryz.prog w=.ok (.value (.agg (aC E9))) w:=by kernel_rfl
def lU(S:Nat→Prop)(b n e p:Nat)(s:Int)(D:Db)(X:List EE)(w:World):Prop:=∃NL E P,jM S b n e p dH s NL E P w∧fA D X NL E P
def uK(S:Nat→Prop)(b n e p:Nat)(s:Int)(D:Db)(X:List EE)(no:Int)(w:World)(z:Ending)(w':World):Prop:=z=.returned (.int .i64 no)∧But (aZ b n e p) w w'∧lU S b n e p s D X w'
section
variable {S:Nat→Prop} {b n e p:Nat} {s s':Int} {D D':Db} {X X':List EE} {no:Int} {w:World}
theorem lU.later(h:lU S b n e p s D X w){w':World}(hb:Below w.heap.size w w'):lU S b n e p s D X w':=by
 obtain⟨NL,E,P,h1,h2⟩:=h
 exact⟨NL,E,P,h1.later hb,h2⟩
theorem lU.off(h:lU S b n e p s D X w){T:Nat→Prop}{w':World}(hb:But T w w')(hT:∀k,T k→S k∧¬aZ b n e p k):lU S b n e p s D X w':=by
 obtain⟨NL,E,P,h1,h2⟩:=h
 exact⟨NL,E,P,h1.off hb (fun k hk=>(hT k hk).1) (fun k hk=>(hT k hk).2),h2⟩
theorem lU.lt(h:lU S b n e p s D X w):∀k,aZ b n e p k→k<w.heap.size:=by
 obtain⟨NL,E,P,h1,h2⟩:=h
 exact h1.lt
theorem uK.of{z:Ending}{w':World}(he:s'=s+(D'.ay-D.ay))(h:xC S b n e p dH s D D' X' no w z w'):uK S b n e p s' D' X' no w z w':=by
 obtain⟨h1,h2,NL,E,P,h3,h4⟩:=h
 rw[←he]at h3
 exact⟨h1,h2,NL,E,P,h3,h4⟩
theorem Jo(h:lU S b n e p s D X w)(r:aN)(d:Entry)(r2:aN)(hDr:D.aG=dH)(hst:kS D X r d no D' X')(he:bK w r2 d)(hlt:∀k,S k→k<w.heap.size)(hn:X.length<4096)(hs0:0≤s)(hs1:s<1000000)(hs:s'=s+(D'.ay-D.ay)) :
  Calls Tryz.prog 23 #[.pointer (some ⟨b,0,none⟩),.agg (ae r2 d)] w (uK S b n e p s' D' X' no w):=by
 obtain⟨NL,E,P,h1,h2⟩:=h
 exact(WN S b n e p dH s NL E P D D' X X' no w r d r2 h1 vI hDr h2 hst he hlt hn hs0 hs1).mono fun z w' hz=>uK.of hs hz
theorem aoQ(h:lU S b n e p s D X w)(q:ai)(hst:mZ D q no D')(hq:q.name.size≤lim)(hn:D.au.length<64)(hs0:0≤s)(hs1:s<1000000)(hs:s'=s+(D'.ay-D.ay)) :
  Calls Tryz.prog 29 #[.pointer (some ⟨b,0,none⟩),.agg (aC q)] w (uK S b n e p s' D' X no w):=by
 obtain⟨NL,E,P,h1,h2⟩:=h
 exact(WO S b n e p dH s NL E P D D' X no w q h1 vI h2 hst hq (by have:=h2.dL.perm.length_eq;omega) hs0 hs1).mono fun z w' hz=>uK.of hs hz
theorem aoR(h:lU S b n e p s D X w)(t:Sl)(q:az)(hst:rU D X q no D' X')(hq:bn w t q)(hs0:0≤s)(hs1:s<1000000)(hs:s'=s+(D'.ay-D.ay)) :
  Calls Tryz.prog 28 #[.pointer (some ⟨b,0,none⟩),.agg (ah t q)] w (uK S b n e p s' D' X' no w):=by
 obtain⟨NL,E,P,h1,h2⟩:=h
 exact(WQ S b n e p dH s NL E P D D' X X' no w t q h1 vI h2 hst hq hs0 hs1).mono fun z w' hz=>uK.of hs hz
theorem aoS(h:lU S b n e p s D X w)(k:ByteArray)(hst:qw D k no D')(hs0:0≤s)(hs1:s<1000000)(hs:s'=s+(D'.ay-D.ay)) :
  Calls Tryz.prog 30 #[.pointer (some ⟨b,0,none⟩),.string k] w (uK S b n e p s' D' X no w):=by
 obtain⟨NL,E,P,h1,h2⟩:=h
 exact(WR S b n e p dH s NL E P D D' X no w k h1 vI h2 hst hs0 hs1).mono fun z w' hz=>uK.of hs hz
theorem aar{r:aN}{NL:List (ByteArray×ByteArray)}{E:List EE}{P:List ai}(hR:fA wG [(r,fH)] NL E P):∃x0∈E,x0.2=fH∧(dQ pV,textOf x0.2.name)∈NL:=by
 rcases hR.found pV with⟨h0,-⟩|⟨i,hi,-,x0,hx,e0,hk⟩
 ·exact absurd h0 (by decide +kernel)
 ·obtain rfl:i=0:=by simpa using hi
  exact⟨x0,hx,e0,hk⟩
theorem aoT{r:aN}(h:lU S b n e p s wG [(r,fH)] w)(t:Sl)(hq:bn w t pV) :
  Calls Tryz.prog 24 #[.pointer (some ⟨b,0,none⟩),.agg (ah t pV)] w fun z w'=>∃r',z=.returned (.tuple #[.agg (ae r' fH),.int .i64 0])∧Below w.heap.size w w'∧bK w' r' fH:=by
 obtain⟨NL,E,P,h1,h2⟩:=h
 obtain⟨x0,hx,e0,hk⟩:=aar h2
 rw[←e0]
 refine(XQ b n e p dH s NL E P t pV w h1.db vI hq x0 hx hk (h1.keep x0 hx).out).mono ?_
 rintro z W1 ⟨r',rfl,hb1,hd1⟩
 exact⟨r',rfl,hb1,(hd1 W1 (fun _ _=>rfl)).at_⟩
theorem aoU{r:aN}(h:lU S b n e p s wG [(r,fH)] w)(t:Sl)(hq:bn w t pV) :
  Calls Tryz.prog 25 #[.pointer (some ⟨b,0,none⟩),.agg (ah t pV)] w fun z w'=>∃s':Sl,z=.returned (.tuple #[.agg (ah s' sO),.int .i64 0])∧Below w.heap.size w w'∧bn w' s' sO:=by
 obtain⟨NL,E,P,h1,h2⟩:=h
 obtain⟨x0,hx,e0,hk⟩:=aar h2
 have:=XR b n e p dH s NL E P t pV w h1.db vI hq x0 hx hk (h1.keep x0 hx).out
 rw[e0]at this
 exact this
theorem aoV(h:lU S b n e p s D X w):Calls Tryz.prog 12 #[.pointer (some ⟨b,0,none⟩)] w fun z w'=>z=.returned (.int .i64 s)∧w=w':=by
 obtain⟨NL,E,P,h1,h2⟩:=h
 exact NT b n e p dH s _ E P w h1.db vI
end
structure qH(w W9:World)(n4 B6:Nat)(S:Nat→Prop)(b n e p:Nat)(s:Int)(D:Db)(X:List EE)(v:World):Prop where
 db:lU S b n e p s D X v
 out:Below w.heap.size w v
 st:∀k,n4≤k→k<B6→v.heap[k]?=W9.heap[k]?
 sz:B6+1<v.heap.size
 of:∀k,aZ b n e p k→w.heap.size≤k∧k<n4
 le:n4≤B6
 zQ:S B6∧∀k,S k→k<B6+1
section
variable {w W9 v v':World} {n4 B6:Nat} {S:Nat→Prop} {b n e p:Nat} {s s':Int} {D D':Db} {X X':List EE}
theorem qH.call(h:qH w W9 n4 B6 S b n e p s D X v)(hu:But (aZ b n e p) v v')(hk:lU S b n e p s' D' X' v'):qH w W9 n4 B6 S b n e p s' D' X' v':=
 ⟨hk,((But.of_below (S:=fun j=>w.heap.size≤j) h.out).trans (hu.mono fun j hj=>(h.of j hj).1)).below (Nat.le_refl _) fun j hj=>hj,
  fun k h1 h2=>(hu.block k (by have:=h.sz;omega) fun hj=>by have:=(h.of k hj).2;omega).trans (h.st k h1 h2),Nat.lt_of_lt_of_le h.sz hu.size,h.of,h.le,h.zQ⟩
theorem qH.later(h:qH w W9 n4 B6 S b n e p s D X v)(hb:Below v.heap.size v v'):qH w W9 n4 B6 S b n e p s D X v':=h.call (But.of_below hb) (h.db.later hb)
theorem qH.blk(h:qH w W9 n4 B6 S b n e p s D X v)(hu:But (aZ b n e p) v v'){k:Nat}{o:Obj}(hx:v.heap[k]?=some o)(hk:B6≤k):v'.heap[k]?=some o:=
 (hu.block k (Array.getElem?_eq_some_iff.1 hx).1 fun hj=>by have:=(h.of k hj).2;have:=h.le;omega).trans hx
theorem qH.set(h:qH w W9 n4 B6 S b n e p s D X v)(o:Nat)(x:Value):qH w W9 n4 B6 S b n e p s D X (v.setCell ⟨B6,o,none⟩ x):=
 have hu:=zg v B6 o x
 have hn:¬aZ b n e p B6:=fun hj=>by have:=(h.of B6 hj).2;have:=h.le;omega
 ⟨h.db.off hu fun k (hk:k=B6)=>⟨hk▸h.zQ.1,hk▸hn⟩,h.out.setCell (show w.heap.size≤B6 by have:=(h.of b (.inl rfl)).1;have:=(h.of b (.inl rfl)).2;have:=h.le;omega) _,
  fun k h1 h2=>(hu.block k (by have:=h.sz;omega) fun hj=>by have:k=B6:=hj;omega).trans (h.st k h1 h2),Nat.lt_of_lt_of_le h.sz hu.size,h.of,h.le,h.zQ⟩
end
attribute [local go_sem] aoA aow aoP aaq
attribute [local go_sem ↓] aoz aox aoO
attribute [local irreducible] fV uz pG zt
theorem Jp(w:World)(hT:wz Tryz.prog w):Calls Tryz.prog 6 #[] w fun z w'=>z=.returned (.bool true)∧Below w.heap.size w w':=by
 have HT:=Lib.hid hT
 clear hT
 go_enter Tryz.func6,Tryz.ntmps6
 go_wp2_with fail
 refine(Ld dH w (by simp[lim,ByteArray.size]) WL).mono ?_
 rintro z w1 ⟨b,n,e,p,rfl,hb1,oD,u1,u2,u3,u4⟩
 have HU:=Lib.hid (show ∀k,aZ b n e p k→w.heap.size≤k from by rintro k (rfl|rfl|rfl|rfl)<;>assumption)
 dsimp only
 go_wp2_with fail
 refine(lN _ _).mono ?_
 rintro z w' ⟨rfl,rfl⟩
 dsimp only
 obtain⟨cap,w2,hcv,hb2,hB2,hc1,hc2⟩:=aoL w1
 rw[show Jn=(⟨#[1,82,0,0,0,0,0,0,0,0,0,0,0,0,0,0,0,0]⟩:ByteArray)++⟨#[0]⟩ from by decide +kernel]at hcv
 go_wp2_with fail
 refine(aoF w1.heap.size cap w2 hB2 hc1 hc2 (kG HT.out (ag hb1 hb2))).mono ?_
 rintro z w3 ⟨rfl,hb3⟩
 dsimp only
 have BM:=Lib.hid (oD.later (ag hb2 hb3))
 have HB:=Lib.hid (ag hb1 (ag hb2 hb3))
 clear hcv hB2 hc1 hc2 u1 u2 u3 u4 oD hb1 hb2 hb3
 go_wp2_with fail
 refine(aad (al5 BM.out (fun k hk=>hk) BM.out.Iz) (by omega) (by simp) (by simp[eQ]) (kG HT.out HB.out)).mono ?_
 rintro z w4 ⟨za,rfl,hb4,hd4⟩
 have k1:=rW za.a za.cap (pR (eQ dH)) w4 hd4.out
 rw[aoK]at k1 ⊢
 have Jq:=Lib.hid (BM.out.later hb4)
 have HB4:=Lib.hid (ag HB.out hb4)
 clear hd4 hb4 BM HB
 dsimp only
 go_wp2_with fail
 refine(lN _ _).mono ?_
 rintro z w' ⟨rfl,rfl⟩
 clear k1
 dsimp only
 go_wp2_with fail
 refine(BN ⟨#[97]⟩ w4 (by simp[lim,ByteArray.size])).mono ?_
 rintro z w5 ⟨ta,rfl,hb5,ha5⟩
 dsimp only
 go_wp2_with fail
 refine(BN ⟨#[98]⟩ w5 (by simp[lim,ByteArray.size])).mono ?_
 rintro z w6 ⟨tb,rfl,hb6,hp6⟩
 have hbx2:=fun w=>aoy ta ⟨[⟨#[97]⟩],dH⟩ ⟨[⟨#[98]⟩],dH⟩ ⟨w6.heap.size,0,none⟩ w
 dsimp only
 go_wp2_with fail
 refine(BN ⟨#[98]⟩ _ (by simp[lim,ByteArray.size])).mono ?_
 rintro z w8 ⟨tc,rfl,hb8,hp8⟩
 dsimp only
 go_wp2_with fail
 rw[←nN,show E5 ⟨[⟨#[97]⟩],dH⟩ [⟨[⟨#[98]⟩],dH⟩]=fH from rfl,show E5 ⟨[⟨#[98]⟩],dH⟩ []=wF from rfl]
 clear hbx2
 obtain⟨RA,P6⟩:∃R,R=EZ ta ⟨some ⟨w6.heap.size,0,none⟩,1⟩:=⟨_,rfl⟩
 obtain⟨RC,P7⟩:∃R,R=EZ tc bF:=⟨_,rfl⟩
 rw[←P6,←P7]
 have A0:=jq w8 (.cells (ae aW aQ) 47) (.cells (ae aW aQ) 47)
 have A1:=World.alloc_heap_new (w8.alloc (.cells (ae aW aQ) 47)) (.cells (ae aW aQ) 47)
 rw[World.size_alloc]at A1
 have P0:=kM (o:=0) (cs:=ae RA fH) A0 (by simp[go_sem])
 rw[nZ (by simp[go_sem])]at P0
 have P1:=kM (o:=0) (cs:=ae RC wF) ((iI (b:=w8.heap.size) (o:=0) (cs:=ae RA fH) (by omega)).trans A1) (by simp[go_sem])
 rw[nZ (by simp[go_sem])]at P1
 have P2:=(iI (b:=w8.heap.size+1) (o:=0) (cs:=ae RC wF) (by omega)).trans P0
 have Jr:=Go.WW.Below.putRow (o:=0) (cs:=ae RC wF) (Go.WW.Below.putRow (o:=0) (cs:=ae RA fH) (aj (aj (Below.refl _ w8) (.cells (ae aW aQ) 47)) (.cells (ae aW aQ) 47)) (Nat.le_refl w8.heap.size)) (Nat.le_succ w8.heap.size)
 generalize (putRow (putRow ((w8.alloc (.cells (ae aW aQ) 47)).alloc (.cells (ae aW aQ) 47)) w8.heap.size 0 (ae RA fH)) (w8.heap.size+1) 0 (ae RC wF))=W9 at *
 have Js:Below w6.heap.size w6 W9:=ag (aj (Below.refl _ w6) (.cells (ah tb ⟨[⟨#[98]⟩],dH⟩) 40)) (ag hb8 Jr)
 have P8:=ag hb5 (ag hb6 Js)
 have hq6:=aJ (ag hb8 Jr) (World.alloc_heap_new w6 (.cells (ah tb ⟨[⟨#[98]⟩],dH⟩) 40))
 have z5:=hb5.size
 have z6:=hb6.size
 have z8:w6.heap.size+1≤w8.heap.size:=by have:=hb8.size;rwa[World.size_alloc]at this
 have HE:=Lib.hid (show ∀y:World,(∀k,w4.heap.size≤k→k<w8.heap.size→y.heap[k]?=W9.heap[k]?)→bK y RA fH∧bK y RC wF from fun y hy=>by
  rw[P6,P7]
  have dA:=ha5 y fun k hk=>(hy k hk.1 (by have:=hk.2;omega)).trans ((ag hb6 Js).block k hk.2)
  have dB:=hp6 y fun k hk=>(hy k (by have:=hk.1;omega) (by have:=hk.2;omega)).trans (Js.block k hk.2)
  have dC:=hp8 y fun k hk=>(hy k (by have:=hk.1;rw[World.size_alloc]at this;omega) hk.2).trans (Jr.block k hk.2)
  exact⟨aaj (a:=⟨some ⟨w6.heap.size,0,none⟩,1⟩) dA (aoN ((hy _ (by omega) (by omega)).trans hq6) dB),aaj (a:=bF) dC (Gx y).aliases⟩)
 have zS:qH w W9 w4.heap.size w8.heap.size (fun k=>aZ b n e p k∨k=w8.heap.size) b n e p 0 (eQ dH) [] W9:=by
  refine⟨⟨[],[],[],⟨Jq.out.later P8,by simp,fun k hk=>.inl hk⟩,MZ⟩,ag HB4.out P8,fun k _ _=>rfl,(Array.getElem?_eq_some_iff.1 P1).1,fun k hk=>⟨HU.out k hk,Jq.out.Iz k hk⟩,by omega,.inr rfl,fun k hk=>?_⟩
  rcases hk with hk|hk
  ·have:=Jq.out.Iz k hk;omega
  ·omega
 clear P6 P7 A0 A1 P0 hb5 hb6 hb8 Jr P8 ha5 hp6 hp8 hq6 HB4 Jq Js z5 z6 z8
 generalize w4.heap.size=n4 at *
 generalize w8.heap.size=B6 at *
 generalize (fun k=>aZ b n e p k∨k=B6)=S at *
 refine(Jo (s':=1) zS.db RA fH RA rfl (k1 RA) (HE.out W9 fun _ _ _=>rfl).1 (fun k hk=>by have:=zS.zQ.2 k hk;have:=zS.sz;omega) (by simp) (by omega) (by omega) rfl).mono ?_
 rintro z w10 ⟨rfl,Jt,hk10⟩
 have zT:=Lib.hid (zS.call Jt hk10)
 have o6:=zS.blk Jt P2 (Nat.le_refl _)
 have o7:=zS.blk Jt P1 (Nat.le_succ _)
 clear zS Jt hk10 P1 P2
 obtain⟨xc,xf,xr,xl⟩:=aB o7
 have yO:row? w10 (B6+1) 0 17=some (ae RC wF):=by rw[bQ o7];exact df (by simp[go_sem])
 dsimp only
 go_wp2_with fail
 refine(lN _ _).mono ?_
 rintro z w' ⟨rfl,rfl⟩
 dsimp only
 go_wp2_with fail
 refine(Jo (s':=1) zT.out.db RC wF RC rfl (k2 RA RC) (HE.out w10 zT.out.st).2 (fun k hk=>by have:=zT.out.zQ.2 k hk;have:=zT.out.sz;omega) (by simp) (by omega) (by omega) rfl).mono ?_
 rintro z w11 ⟨rfl,Bl,aav⟩
 have aaw:=Lib.hid (zT.out.call Bl aav)
 have p6:=zT.out.blk Bl o6 (Nat.le_refl _)
 clear zT Bl aav o6 o7 xc xf xr xl yO
 dsimp only
 go_wp2_with fail
 refine(lN _ _).mono ?_
 rintro z w' ⟨rfl,rfl⟩
 dsimp only
 go_wp2_with fail
 refine(BN ⟨#[98]⟩ _ (by simp[lim,ByteArray.size])).mono ?_
 rintro z w12 ⟨td,rfl,gu,aax⟩
 have Ju:=Lib.hid (aaw.out.later gu)
 have q6:=aJ gu p6
 clear aaw p6 gu
 dsimp only
 go_wp2_with fail
 refine(aoT Ju.out.db td aax.out).mono ?_
 rintro z Fb ⟨r',rfl,lg,aay⟩
 have hbv:=aj lg (.cells (ae r' fH) 47)
 have o8:=World.alloc_heap_new Fb (.cells (ae r' fH) 47)
 have P9:=Lib.hid (Ju.out.later hbv)
 have p6:=aJ hbv q6
 have aaz:=aay.later (aj (Below.refl _ Fb) (.cells (ae r' fH) 47))
 have g8:B6<Fb.heap.size:=by have:=Ju.out.sz;have:=lg.size;omega
 clear Ju q6 lg hbv aax aay
 dsimp only
 go_wp2_with fail
 generalize (Fb.alloc (.cells (ae r' fH) 47))=V13 at *
 generalize Fb.heap.size=B8 at *
 have aaA:=Lib.hid aaz
 clear aaz
 refine(BN ⟨#[98]⟩ _ (by simp[lim,ByteArray.size])).mono ?_
 rintro z w14 ⟨te,rfl,oG,aaB⟩
 dsimp only
 go_wp2_with fail
 refine(aoU (P9.out.later oG).db te aaB.out).mono ?_
 rintro z Fe ⟨s',rfl,vV,aaC⟩
 have hbv:=aj (ag oG vV) (.cells (ah s' sO) 40)
 have o10:=World.alloc_heap_new Fe (.cells (ah s' sO) 40)
 have Qa:=Lib.hid (P9.out.later hbv)
 have q6:=aJ hbv p6
 have q8:=aJ hbv o8
 have BD:=Lib.hid (aaA.out.later hbv)
 have aaE:=Lib.hid (aaC.later (aj (Below.refl _ Fe) (.cells (ah s' sO) 40)))
 have g10:B8<Fe.heap.size:=by have:=(Array.getElem?_eq_some_iff.1 o8).1;have:=oG.size;have:=vV.size;omega
 clear P9 aaA oG vV aaB aaC hbv p6 o8
 dsimp only
 go_wp2_with fail
 generalize (Fe.alloc (.cells (ah s' sO) 40))=BP at *
 generalize Fe.heap.size=B10 at *
 refine(lN _ _).mono ?_
 rintro z w' ⟨rfl,rfl⟩
 dsimp only
 go_wp2_with fail
 refine(lN _ _).mono ?_
 rintro z w' ⟨rfl,rfl⟩
 have xZ:row? BP B6 0 17=some (ae RA fH):=by rw[bQ q6];exact df (by simp[go_sem])
 have ui:row? BP B8 0 17=some (ae r' fH):=by rw[bQ q8];exact df (by simp[go_sem])
 have l6:B6<BP.heap.size:=(Array.getElem?_eq_some_iff.1 q6).1
 have l8:B8<BP.heap.size:=(Array.getElem?_eq_some_iff.1 q8).1
 dsimp only
 go_wp2_with fail
 refine(XW RA r' fH fH BP (HE.out BP Qa.out.st).1 BD.out).mono ?_
 rintro z w16 ⟨rfl,hb16⟩
 rw[XV]
 have Qb:=Lib.hid (Qa.out.later hb16)
 have p6:=aJ hb16 q6
 have p10:=aJ hb16 o10
 have aaF:=Lib.hid (aaE.out.later hb16)
 clear Qa BD aaE q6 q8 o10 xZ ui l6 l8 hb16
 have xZ:row? w16 B6 0 17=some (ae RA fH):=by rw[bQ p6];exact df (by simp[go_sem])
 have aoW:row? w16 B6 0 2=some (ah RA.parts sO):=(CZ xZ (by omega)).trans (Cf RA fH)
 have Qc:row? w16 B10 0 2=some (ah s' sO):=by rw[bQ p10];exact df (by simp[go_sem])
 have l6:B6<w16.heap.size:=(Array.getElem?_eq_some_iff.1 p6).1
 have l10:B10<w16.heap.size:=(Array.getElem?_eq_some_iff.1 p10).1
 dsimp only
 go_wp2_with fail
 refine(nV s' RA.parts sO sO w16 aaF.out (HE.out w16 Qb.out.st).1.name).mono ?_
 rintro z w17 ⟨rfl,BF⟩
 rw[Ir]
 have aaG:=Lib.hid (Qb.out.later BF)
 have q6:=aJ BF p6
 clear Qb aaF p6 p10 xZ aoW Qc l6 l10 BF
 dsimp only
 go_wp2_with fail
 refine(BN ⟨#[98]⟩ _ (by simp[lim,ByteArray.size])).mono ?_
 rintro z w18 ⟨tf,rfl,BG,aaH⟩
 have Jv:=Lib.hid (aaG.out.later BG)
 have p6:=aJ BG q6
 clear aaG q6 BG
 dsimp only
 go_wp2_with fail
 refine(aoR (s':=1) Jv.out.db tf pV (k3 RA) aaH.out (by omega) (by omega) rfl).mono ?_
 rintro z wH ⟨rfl,Qd,aaI⟩
 have Jw:=Lib.hid (Jv.out.call Qd aaI)
 have q6:=Jv.out.blk Qd p6 (Nat.le_refl _)
 clear Jv p6 Qd aaI aaH
 dsimp only
 go_wp2_with fail
 refine(lN _ _).mono ?_
 rintro z w' ⟨rfl,rfl⟩
 dsimp only
 go_wp2_with fail
 refine(aoV Jw.out.db).mono ?_
 rintro z w' ⟨rfl,rfl⟩
 obtain⟨xc,xf,xr,xl⟩:=aB q6
 have s6:(wH.setCell ⟨B6,6,none⟩ (.string ⟨#[115,116,97,102,102]⟩)).heap[B6]?=some (.cells (ae RA qF) 47):=by
  have:=dI (o:=6) (.string ⟨#[115,116,97,102,102]⟩) q6
  rw[aaq]at this
  exact this
 have aaJ:=Lib.hid (Jw.out.set 6 (.string ⟨#[115,116,97,102,102]⟩))
 have xZ:row? (wH.setCell ⟨B6,6,none⟩ (.string ⟨#[115,116,97,102,102]⟩)) B6 0 17=some (ae RA qF):=by rw[bQ s6];exact df (by simp[go_sem])
 dsimp only
 go_wp2_with fail
 rw[show({qF with aO:=⟨#[120]⟩}:Entry)=zO from rfl]
 have Qe:=World.alloc_heap_new (wH.setCell ⟨B6,6,none⟩ (.string ⟨#[115,116,97,102,102]⟩)) (.cells (ae RA zO) 47)
 have hbv:=aj (Below.refl _ (wH.setCell ⟨B6,6,none⟩ (.string ⟨#[115,116,97,102,102]⟩))) (.cells (ae RA zO) 47)
 have Ff:=Lib.hid (aaJ.out.later hbv)
 have p6:=aJ hbv s6
 have z12:(wH.setCell ⟨B6,6,none⟩ (.string ⟨#[115,116,97,102,102]⟩)).heap.size=wH.heap.size:=by simp[World.setCell]
 rw[z12]at Qe
 have g12:B6≤wH.heap.size:=by have:=Jw.out.sz;omega
 clear Jw aaJ q6 xc xf xr xl s6 xZ hbv z12
 generalize ((wH.setCell ⟨B6,6,none⟩ (.string ⟨#[115,116,97,102,102]⟩)).alloc (.cells (ae RA zO) 47))=V21 at *
 generalize wH.heap.size=B12 at *
 have hEP:∀(y:World) (s:ByteArray),s.size≤lim→bK y RA fH→bK y RA {fH with aO:=s}:=fun y s hs h=>⟨h.name,h.aliases,h.keys,h.targets,h.bD,h.history,hs,h.attrs⟩
 have HEP:=Lib.hid hEP
 clear hEP
 refine(aoQ (s':=2) Ff.out.db E9 k4 (by decide) (by decide) (by omega) (by omega) rfl).mono ?_
 rintro z Qg ⟨rfl,Jy,aaN⟩
 have zU:=Lib.hid (Ff.out.call Jy aaN)
 have q6:=Ff.out.blk Jy p6 (Nat.le_refl _)
 have q12:=Ff.out.blk Jy Qe g12
 have xZ:row? Qg B6 0 17=some (ae RA qF):=by rw[bQ q6];exact df (by simp[go_sem])
 have l6:B6<Qg.heap.size:=(Array.getElem?_eq_some_iff.1 q6).1
 clear Ff p6 Qe Jy aaN
 dsimp only
 go_wp2_with fail
 refine(lN _ _).mono ?_
 rintro z w' ⟨rfl,rfl⟩
 dsimp only
 go_wp2_with fail
 refine(Jo (s':=3) zU.out.db RA qF RA rfl (k5 RA RA) (HEP.out _ E8 (by decide) (HE.out Qg zU.out.st).1) (fun k hk=>by have:=zU.out.zQ.2 k hk;have:=zU.out.sz;omega) (by simp) (by omega) (by omega) rfl).mono ?_
 rintro z w23 ⟨rfl,Qh,aaO⟩
 have Jz:=Lib.hid (zU.out.call Qh aaO)
 have p12:=zU.out.blk Qh q12 g12
 clear zU q6 q12 xZ l6 Qh aaO
 dsimp only
 go_wp2_with fail
 refine(lN _ _).mono ?_
 rintro z w' ⟨rfl,rfl⟩
 dsimp only
 go_wp2_with fail
 refine(aoS (s':=3) Jz.out.db E8 k6 (by omega) (by omega) rfl).mono ?_
 rintro z Qi ⟨rfl,Qj,aaP⟩
 have BQ:=Lib.hid (Jz.out.call Qj aaP)
 have q12:=Jz.out.blk Qj p12 g12
 have aoX:row? Qi B12 0 17=some (ae RA zO):=by rw[bQ q12];exact df (by simp[go_sem])
 have l12:B12<Qi.heap.size:=(Array.getElem?_eq_some_iff.1 q12).1
 clear Jz p12 Qj aaP
 dsimp only
 go_wp2_with fail
 refine(lN _ _).mono ?_
 rintro z w' ⟨rfl,rfl⟩
 dsimp only
 go_wp2_with fail
 refine(Jo (s':=3) BQ.out.db RA zO RA rfl (k7 RA RA) (HEP.out _ ⟨#[120]⟩ (by decide) (HE.out Qi BQ.out.st).1) (fun k hk=>by have:=BQ.out.zQ.2 k hk;have:=BQ.out.sz;omega) (by simp) (by omega) (by omega) rfl).mono ?_
 rintro z w25 ⟨rfl,aaQ,aaR⟩
 have aoY:=Lib.hid (BQ.out.call aaQ aaR)
 clear BQ q12 aoX l12 aaQ aaR
 dsimp only
 go_wp2_with fail
 refine(lN _ _).mono ?_
 rintro z w' ⟨rfl,rfl⟩
 dsimp only
 go_wp2_with fail
 go_ret
 exact⟨rfl,aoY.out.out⟩
end Go.Proofs.YtfieenjdcpjmgaaGreatDoor
