/- A part of the proof. -/
import Derived.Test.YtfieenjdcpjmgaaGreatDoorA30
import Derived.Test.YtfieenjdcpjmgaaGreatDoorA31
import Derived.Test.YtfieenjdcpjmgaaGreatDoorA33
import Derived.Test.YtfieenjdcpjmgaaGreatDoorA34
set_option maxRecDepth 100000
set_option maxHeartbeats 16000000
namespace Go.WW
open Go.RowKit
theorem aoD{c d:Array Value}{n:Nat}(h:c.size=n):eG (c++d) 0 n=some c:=by
 subst h
 simp[eG]
theorem aoE{c d:Array Value}{n m:Nat}(h:c.size=n)(h2:d.size=m):eG (c++d) n m=some d:=by
 subst h h2
 simp[eG]
theorem aoF{l m:List UInt8}{s t:ByteArray}(hs:s=⟨l.toArray⟩)(ht:t=⟨m.toArray⟩):(s.toList == t.toList)=decide (l=m):=by
 subst hs ht
 rw[ByteArray.toList_eq,ByteArray.toList_eq,Bool.eq_iff_iff]
 simp
end Go.WW
namespace Go.Proofs.YtfieenjdcpjmgaaGreatDoor
open Go.RowKit Go.WW
theorem aoG(ρ:Operand→Value)(dst:Option Tmp)(x y:Operand)(ty:TypeId)(pos:String)(after:Array Edge)(guard:Option (Nat×Bool)):execOp ρ {dst,op:=.buildSlice 22 2 #[(0,x),(1,y)],type:=ty,pos,after,guard}=nI 22 2 #[(0,ρ x),(1,ρ y)]:=by simp[execOp,nI]
theorem aoH(w:World)(z1 z2:jm)(x1 x2:dX):(nI 22 2 #[(0,.agg (bZ z1 x1)),(1,.agg (bZ z2 x2))]).run Tryz.prog w=.ok (.value (.slice (some ⟨w.heap.size,0,none⟩) 2 2)) (w.alloc (.cells (bZ z1 x1++bZ z2 x2) 52)):=by kernel_rfl
attribute [local go_sem] aoH
attribute [local go_sem ↓] aoG
theorem aoI{w:World}{z1 z2:jm}{x1 x2:dX}(h1:o9 w z1 x1)(h2:o9 w z2 x2):pg (w.alloc (.cells (bZ z1 x1++bZ z2 x2) 52)) (some ⟨w.heap.size,0,none⟩) [x1,x2]:=by
 refine⟨by simp[lim],fun i hi=>?_⟩
 have hb:=aj (Below.refl _ w) (.cells (bZ z1 x1++bZ z2 x2) 52)
 rcases(show i=0∨i=1 by simp at hi;omega)with rfl|rfl
 ·exact⟨_,_,_,rfl,by rw[BQ rfl,Nat.zero_add,Nat.zero_mul];exact aoD (AZ z1 x1),x1,z1,rfl,rfl,h1.later hb⟩
 ·exact⟨_,_,_,rfl,by rw[BQ rfl,Nat.zero_add,Nat.one_mul];exact aoE (AZ z1 x1) (AZ z2 x2),x2,z2,rfl,rfl,h2.later hb⟩
theorem iJ.copied{S S':Nat→Prop}{b n e p b' n' e' p':Nat}{re:ByteArray}{es ps:Sl}{D:Db}{X:List EE}{N:Nat}{w w':World}{NL:List (ByteArray×ByteArray)}{E:List EE}{P:List ah}(h:iJ S b n e p re es ps D X N w)(hP:jB S b n e p re D.ay NL E P w)(hR:fJ D X NL E P)(hb:Below w.heap.size w w')
  (hc:bU w' b' n' e' p' re D.ay (fB NL) E P) (hS:∀k,S' k→S k∨w.heap.size≤k) (hsub:∀k,S k→S' k) (aoJ:∀k,aU b' n' e' p' k→S' k) (hlt:∀k,S' k→k<w'.heap.size):iJ S' b' n' e' p' re es ps D X N w':=by
 have hg:∀k,S' k→k<w.heap.size→S k:=fun k hk hl=>by
  rcases hS k hk with h|h
  ·exact h
  ·omega
 exact⟨⟨NL,E,P,⟨hc,((hP.grow hg hsub).later hb).keep,aoJ⟩,hR⟩,(h.ref.grow hg).later hb,h.aF,hlt,h.sort,h.d0,h.d1,h.n1,h.n2⟩
theorem aoK(a:Option Addr)(cap:Nat)(l:List dX)(z1 z2:jm)(x1 x2:dX)(w:World)(hl:pg w a l)(hx1:o9 w z1 x1)(hx2:o9 w z2 x2)(hT:uI Tryz.prog w) :
  Calls Tryz.prog 4 #[.slice a l.length cap,.agg (bZ z1 x1),.agg (bZ z2 x2)] w fun y w'=>y=.returned (.bool true)∧Below w.heap.size w w':=by
 have hB:Below w.heap.size w ((w.alloc (.cells (bZ z1 x1) 52)).alloc (.cells (bZ z2 x2) 52)):=aj (aj (Below.refl _ _) _) _
 have g4:((w.alloc (.cells (bZ z1 x1) 52)).alloc (.cells (bZ z2 x2) 52)).heap[w.heap.size]?=some (.cells (bZ z1 x1) 52):=jQ _ _ _
 have g5:((w.alloc (.cells (bZ z1 x1) 52)).alloc (.cells (bZ z2 x2) 52)).heap[w.heap.size+1]?=some (.cells (bZ z2 x2) 52):=by
  have:=World.alloc_heap_new (w.alloc (.cells (bZ z1 x1) 52)) (.cells (bZ z2 x2) 52)
  rwa[World.size_alloc]at this
 have HL:=Lib.hid hl
 have BG:=Lib.hid hx1
 have HX2:=Lib.hid hx2
 have HT:=Lib.hid hT
 clear hl hx1 hx2 hT
 go_enter Tryz.func4,Tryz.ntmps4
 go_wp2_with fail
 generalize ((w.alloc (.cells (bZ z1 x1) 52)).alloc (.cells (bZ z2 x2) 52))=W at *
 refine(aar a cap l 8 W (HL.out.later hB)).mono ?_
 rintro y w1 ⟨c,rfl,hc,hb1⟩
 have e4:=aJ hb1 g4
 have e5:=aJ hb1 g5
 have hB1:=ag hB hb1
 clear g4 g5 hB
 cases c
 case false=>
  clear hc
  dsimp only
  go_wp2_with fail
  refine(PG _ (jo HT.out hB1)).mono ?_
  rintro y wk ⟨rfl,hbk⟩
  dsimp only
  go_wp2_with fail
  go_ret
  exact⟨rfl,ag hB1 hbk⟩
 have OV:l.length≤8:=by have:=hc rfl;omega
 clear hc
 obtain⟨c4,f4,r4,l4⟩:=aC e4
 obtain⟨c5,f5,r5,l5⟩:=aC e5
 have hr4:row? w1 w.heap.size 0 33=some (bZ z1 x1):=by rw[r4];exact dm (AZ z1 x1)
 have rO:row? w1 (w.heap.size+1) 0 33=some (bZ z2 x2):=by rw[r5];exact dm (AZ z2 x2)
 clear c4 f4 r4 c5 f5 r5
 dsimp only
 go_wp2_with fail
 have hBs:=aj (Below.refl _ w1) (.cells (bZ z1 x1++bZ z2 x2) 52)
 refine(aar (some ⟨w1.heap.size,0,none⟩) 2 [x1,x2] 2 _ (aoI (BG.out.later hB1) (HX2.out.later hB1))).mono ?_
 rintro y w2 ⟨c,rfl,-,hb2⟩
 have dW:=ag hBs hb2
 have h4:=aJ dW e4
 have h5:=aJ dW e5
 have hB2:=ag hB1 dW
 clear e4 e5 hBs hb2 dW hr4 rO hB1 hb1 l4 l5
 cases c
 case false=>
  dsimp only
  go_wp2_with fail
  refine(PG _ (jo HT.out hB2)).mono ?_
  rintro y wk ⟨rfl,hbk⟩
  dsimp only
  go_wp2_with fail
  go_ret
  exact⟨rfl,ag hB2 hbk⟩
 dsimp only
 go_wp2_with fail
 refine(alm a cap l w2 (HL.out.later hB2) (by omega)).mono ?_
 rintro y w3 ⟨S,b,n,e,p,es,ps,D,X,rfl,hb3,jR,hS⟩
 have hs2:=hB2.size
 have l5:w.heap.size+1<w2.heap.size:=(Array.getElem?_eq_some_iff.1 h5).1
 dsimp only
 go_wp2_with fail
 have hb8:=aj (Below.refl _ w3) (.cells (au es ps D) 32)
 have m8:=World.alloc_heap_new w3 (.cells (au es ps D) 32)
 have E9:=jR.later hb8
 have m4:=aJ hb8 (aJ hb3 h4)
 have m5:=aJ hb8 (aJ hb3 h5)
 have EM:=ag hB2 (ag hb3 hb8)
 have hs3:=hb3.size
 have BP:∀j,S j→w2.heap.size≤j∧j<w3.heap.size:=fun j hj=>⟨hS j hj,jR.lt j hj⟩
 clear h4 h5 hb3 jR hS hb8
 generalize (w3.alloc (.cells (au es ps D) 32))=V8 at *
 generalize w3.heap.size=b8 at *
 obtain⟨NL,E,P,hP,hR⟩:=E9.ex
 refine(anr b n e p bg D.ay _ E P V8 hP.db lG).mono ?_
 rintro y w5 ⟨b',n',e',p',rfl,hb5,hdc,Fa⟩
 have m8l:b8<V8.heap.size:=(Array.getElem?_eq_some_iff.1 m8).1
 have hlt':=hdc.Be
 have hs5:=hb5.size
 obtain⟨S2,hS2⟩:∃S2:Nat→Prop,S2=fun k=>S k∨aU b' n' e' p' k:=⟨_,rfl⟩
 have q1:∀k,S2 k→S k∨V8.heap.size≤k:=fun k hk=>by rw[hS2]at hk;exact hk.imp id (Fa k)
 have q2:∀k,S2 k→k<w5.heap.size:=fun k hk=>by
  rw[hS2]at hk
  rcases hk with hk|hk
  ·have:=E9.lt k hk;omega
  ·exact hlt' k hk
 have q3:∀k,S k→S2 k:=fun k hk=>by rw[hS2];exact .inl hk
 have q4:∀k,aU b' n' e' p' k→S2 k:=fun k hk=>by rw[hS2];exact .inr hk
 have HD:=Lib.hid (E9.wide hb5 q1 q3 q2)
 have HC:=Lib.hid (E9.copied hP hR hb5 hdc q1 q3 q4 q2)
 have hsub:∀k,aU b n e p k→S k:=hP.sub
 have n8:=aJ hb5 m8
 have n4:=aJ hb5 m4
 have n5:=aJ hb5 m5
 have wS:=ag EM hb5
 have HS:=Lib.hid (show(∀k,S2 k→w.heap.size≤k)∧(∀k,aU b n e p k→S2 k∧w2.heap.size≤k∧k<b8∧¬aU b' n' e' p' k)∧(∀k,aU b' n' e' p' k→S2 k∧V8.heap.size≤k∧¬aU b n e p k) from by
  refine⟨fun k hk=>?_,fun k hk=>?_,fun k hk=>?_⟩
  ·rcases q1 k hk with hk|hk
   ·have:=BP k hk;omega
   ·omega
  ·refine⟨q3 k (hsub k hk),(BP k (hsub k hk)).1,(BP k (hsub k hk)).2,fun hj=>?_⟩
   have:=Fa k hj
   have:=(BP k (hsub k hk)).2
   omega
  ·refine⟨q4 k hk,Fa k hk,fun hj=>?_⟩
   have:=Fa k hk
   have:=(BP k (hsub k hj)).2
   omega)
 clear m4 m5 m8 E9 hP hR hb5 hdc Fa hlt' q1 q2 q3 q4 hsub BP EM hS2 hs3
 dsimp only
 go_wp2_with fail
 refine(O6 HD.out HC.out (by omega) (by omega) (jo HT.out wS)).mono ?_
 rintro y w6 ⟨rfl,hb6⟩
 rw[decide_eq_true (rfl:jd D=jd D)]
 dsimp only
 go_wp2_with fail
 refine(O6 (HC.out.later hb6) (HD.out.later hb6) (by omega) (by omega) (jo HT.out (ag wS hb6))).mono ?_
 rintro y w7 ⟨rfl,hb7⟩
 rw[decide_eq_true (rfl:jd D=jd D)]
 dsimp only
 have zN:=ag hb6 hb7
 have pq:=ag wS zN
 have p8:=aJ zN n8
 have p4:=aJ zN n4
 have p5:=aJ zN n5
 have HD7:=Lib.hid (HD.out.later zN)
 have P6:=Lib.hid (HC.out.later zN)
 have og:row? w7 b8 0 4=some (au es ps D):=by rw[bP p8];exact dm (by simp[go_sem])
 have hr4:row? w7 w.heap.size 0 33=some (bZ z1 x1):=by rw[bP p4];exact dm (by simp[go_sem])
 have l8:b8<w7.heap.size:=(Array.getElem?_eq_some_iff.1 p8).1
 have l4:w.heap.size<w7.heap.size:=(Array.getElem?_eq_some_iff.1 p4).1
 have HO:=Lib.hid (show ∀k,aU b' n' e' p' k→k<w7.heap.size from by
  obtain⟨_,_,_,hp,-⟩:=P6.out.ex
  exact hp.lt)
 clear n4 n5 n8 hb6 hb7 zN HD HC wS
 go_wp2_with fail
 refine(Ij S2 b n e p bg es ps D X l.length w z1 x1 w7 HD7.out lG (by omega) pq BG.out HS.out.1).mono ?_
 rintro y V1 ⟨S3,es1,ps1,D1,X1,rfl,hu1,hd1,hS3,aat⟩
 have m8:V1.heap[b8]?=some (.cells (au es ps D) 32):=(hu1.block _ l8 (fun hj=>by have:=(HS.out.2.1 _ hj).2.2.1;omega)).trans p8
 have m5:V1.heap[w.heap.size+1]?=some (.cells (bZ z2 x2) 52):=(hu1.block _ (Array.getElem?_eq_some_iff.1 p5).1 (fun hj=>by have:=(HS.out.2.1 _ hj).2.1;omega)).trans p5
 have hB1:Below w.heap.size w V1:=((But.of_below (S:=fun j=>w.heap.size≤j) pq).trans (hu1.mono fun j hj=>HS.out.1 j (HS.out.2.1 j hj).1)).below (Nat.le_refl _) fun j hj=>hj
 have hc1:=P6.out.off hu1 (fun k hk=>⟨(HS.out.2.1 k hk).1,(HS.out.2.1 k hk).2.2.2⟩)
 have hb2:=aj (Below.refl _ V1) (.cells (au es1 ps1 D1) 32)
 have P7:=World.alloc_heap_new V1 (.cells (au es1 ps1 D1) 32)
 have HD1:=Lib.hid (hd1.later hb2)
 have xP:=Lib.hid (hc1.later hb2)
 have hB2:=ag hB1 hb2
 have o8:=aJ hb2 m8
 have o5:=aJ hb2 m5
 have yz:=Lib.hid aat
 have arp:=hu1.size
 clear p8 p4 p5 og hr4 hd1 hc1 hb2 hS3 aat m8 m5 hB1 HD7 P6 l4 pq
 have og:row? (V1.alloc (.cells (au es1 ps1 D1) 32)) b8 0 4=some (au es ps D):=by rw[bP o8];exact dm (by simp[go_sem])
 have rO:row? (V1.alloc (.cells (au es1 ps1 D1) 32)) (w.heap.size+1) 0 33=some (bZ z2 x2):=by rw[bP o5];exact dm (by simp[go_sem])
 have l8':b8<(V1.alloc (.cells (au es1 ps1 D1) 32)).heap.size:=(Array.getElem?_eq_some_iff.1 o8).1
 have l5':w.heap.size+1<(V1.alloc (.cells (au es1 ps1 D1) 32)).heap.size:=(Array.getElem?_eq_some_iff.1 o5).1
 have l11:V1.heap.size<(V1.alloc (.cells (au es1 ps1 D1) 32)).heap.size:=(Array.getElem?_eq_some_iff.1 P7).1
 clear hu1
 dsimp only
 go_wp2_with fail
 generalize (V1.alloc (.cells (au es1 ps1 D1) 32))=V2 at *
 generalize V1.heap.size=T11 at *
 refine(Ij S2 b' n' e' p' bg es ps D X l.length w z2 x2 V2 xP.out lG (by omega) hB2 HX2.out HS.out.1).mono ?_
 rintro y V3 ⟨S4,es2,ps2,D2,X2,rfl,hu2,hd2,hS4,aoM⟩
 have hB3:Below w.heap.size w V3:=((But.of_below (S:=fun j=>w.heap.size≤j) hB2).trans (hu2.mono fun j hj=>HS.out.1 j (HS.out.2.2 j hj).1)).below (Nat.le_refl _) fun j hj=>hj
 have xJ:=HD1.out.off hu2 (fun k hk=>⟨yz.out k (HS.out.2.2 k hk).1,(HS.out.2.2 k hk).2.2⟩)
 have n11:¬aU b' n' e' p' T11:=fun hj=>by have:=HO.out _ hj;omega
 have m11:=(hu2.block _ l11 n11).trans P7
 have hb4:=aj (Below.refl _ V3) (.cells (au es2 ps2 D2) 32)
 have P8:=World.alloc_heap_new V3 (.cells (au es2 ps2 D2) 32)
 have HD4:=Lib.hid (xJ.later hb4)
 have zx:=Lib.hid (hd2.later hb4)
 have HB4:=Lib.hid (ag hB3 hb4)
 have P9:=aJ hb4 m11
 clear og rO o8 o5 P7 hd2 xJ hb4 hS4 aoM m11 HD1 xP hu2 hB2 hB3
 dsimp only
 go_wp2_with fail
 generalize (V3.alloc (.cells (au es2 ps2 D2) 32))=U at *
 generalize V3.heap.size=T13 at *
 have aoN:row? U T11 0 4=some (au es1 ps1 D1):=by rw[bP P9];exact dm (by simp[go_sem])
 have aoO:row? U T13 0 4=some (au es2 ps2 D2):=by rw[bP P8];exact dm (by simp[go_sem])
 have aoP:T11<U.heap.size:=(Array.getElem?_eq_some_iff.1 P9).1
 have aoQ:T13<U.heap.size:=(Array.getElem?_eq_some_iff.1 P8).1
 have hn1:=HD4.out.n1
 have hn2:=HD4.out.n2
 have hn3:=zx.out.n1
 have hn4:=zx.out.n2
 obtain⟨s1,hs1⟩:∃s,s=ByteArray.mk (jd D1).toArray:=⟨_,rfl⟩
 obtain⟨s2,hs2⟩:∃s,s=ByteArray.mk (jd D2).toArray:=⟨_,rfl⟩
 have hbq:=aoF hs1 hs2
 have iP:=Lib.hid hs1
 have HS2:=Lib.hid hs2
 obtain⟨B,uh⟩:∃B,B=decide (jd D1=jd D2):=⟨_,rfl⟩
 rw[←uh]at hbq
 have HBQ:=Lib.hid uh
 clear hs1 hs2 uh P9 P8
 refine Zy (since U) looks (uJ 87) 19 21 18 [0,1,2,3,4,5,6,7,8,9,10,11,12,13,14,15,16,17,21,18,19] [20,22,23,24,25,26,27,28,29,30] (by kernel_rfl) (by kernel_rfl) (by kernel_rfl) (by decide) (by rfl) (by rfl) ⟨⟨World.drew U,(Below.refl _ U).drew⟩,rfl⟩ ?_
 have hz0:Below U.heap.size U U.drew:=(Below.refl _ U).drew
 generalize U.drew=v0 at hz0 ⊢
 simp only[pick,List.getElem?_cons_zero,List.getElem?_cons_succ]
 repeat (first|(refine ak (by rfl) ?_)|(refine aI (by rfl) (by rfl) (fun K hK=>?_);go_big_quiet_op;refine hK _ ?_;clear hK K))
 refine aK (by rfl) (by rfl) (fun K hK=>?_)
 go_wp2_with fail
 refine(Zz S3 b n e p bg es1 ps1 D1 X1 (l.length+1) v0 (HD4.out.later hz0) (by omega) (by omega) (by omega) (jo HT.out (ag HB4.out hz0)) lG (by decide)).mono ?_
 rintro z v1 ⟨rfl,hv1⟩
 have hz1:=ag hz0 hv1
 dsimp only
 refine hK _ _ (aA hz1) ?_
 clear hK K
 repeat (first|(refine ak (by rfl) ?_)|(refine aI (by rfl) (by rfl) (fun K hK=>?_);go_big_quiet_op;refine hK _ ?_;clear hK K))
 refine aK (by rfl) (by rfl) (fun K hK=>?_)
 go_wp2_with fail
 refine(Zz S4 b' n' e' p' bg es2 ps2 D2 X2 (l.length+1) v1 (zx.out.later hz1) (by omega) (by omega) (by omega) (jo HT.out (ag HB4.out hz1)) lG (by decide)).mono ?_
 rintro z v2 ⟨rfl,hv2⟩
 have hz2:=ag hz1 hv2
 dsimp only
 refine hK _ _ (aA hz2) ?_
 clear hK K
 repeat (first|(refine ak (by rfl) ?_)|(refine aI (by rfl) (by rfl) (fun K hK=>?_);go_big_quiet_op;refine hK _ ?_;clear hK K))
 refine aK (by rfl) (by rfl) (fun K hK=>?_)
 go_wp2_with fail
 refine(O6 (HD4.out.later hz2) (zx.out.later hz2) (by omega) (by omega) (jo HT.out (ag HB4.out hz2))).mono ?_
 rintro z v3 ⟨rfl,hv3⟩
 rw[←HBQ.out]
 have hz3:=ag hz2 hv3
 dsimp only
 refine hK _ _ (aA hz3) ?_
 clear hK K
 repeat (first|(refine ak (by rfl) ?_)|(refine aI (by rfl) (by rfl) (fun K hK=>?_);go_big_quiet_op;refine hK _ ?_;clear hK K))
 refine aK (by rfl) (by rfl) (fun K hK=>?_)
 go_wp2_with fail
 refine(O3 (HD4.out.later hz3) (by omega)).mono ?_
 rintro z v4 ⟨za,rfl,hv4,hd4⟩
 have rf:=ag hz3 hv4
 dsimp only
 refine hK _ _ (aA rf) ?_
 clear hK K
 refine bQ ?_
 refine⟨since v4,fun v hv=>?_,⟨⟨v4,Below.refl _ _⟩,rfl⟩,?_⟩
 ·obtain⟨x,rfl⟩:=hv
  exact⟨⟨x.w,ag rf x.b⟩,rfl⟩
 have HD2:=Lib.hid hd4.out
 have HCV:=Lib.hid (zx.out.later rf)
 have xy:=Lib.hid (ag HB4.out rf)
 have k1:∀v:Later v4,(convert 61 9 (.slice za.a (jd D1).length za.cap)).run Tryz.prog v.w=.ok (.string s1) v.w:=fun v=>iP.out▸pK za.a za.cap (jd D1) _ (HD2.out.later v.b)
 clear hd4 hv1 hv2 hv3 hv4 hz0 hz1 hz2 hz3 rf aoN aoO aoP aoQ
 repeat (first|(refine ak (by rfl) ?_)|(refine zG (by rfl) (by rfl) (fun K hK=>?_);go_big_quiet_op;refine hK _ ?_;clear hK K))
 refine EN (by rfl) (by rfl) (fun K hK=>?_)
 go_wp2_with fail
 refine(O3 HCV.out (by omega)).mono ?_
 rintro z v5 ⟨zb,rfl,hv5,hd5⟩
 have k2:=pK zb.a zb.cap (jd D2) v5 hd5.out
 rw[←HS2.out]at k2
 dsimp only
 refine hK _ _ (aA hv5) ?_
 clear hK K
 repeat (first|(refine ak (by rfl) ?_)|(refine zG (by rfl) (by rfl) (fun K hK=>?_);go_big_quiet_op;refine hK _ ?_;clear hK K))
 refine EN (by rfl) (by rfl) (fun K hK=>?_)
 go_wp2_with fail
 refine hK _ _ (aA hv5) ?_
 clear hK K
 repeat (first|(refine ak (by rfl) ?_)|(refine zG (by rfl) (by rfl) (fun K hK=>?_);go_big_quiet_op;refine hK _ ?_;clear hK K))
 refine EN (by rfl) (by rfl) (fun K hK=>?_)
 go_wp2_with fail
 refine(PG _ (jo HT.out (ag xy.out hv5))).mono ?_
 rintro z v6 ⟨rfl,hv6⟩
 have Qa:=ag hv5 hv6
 dsimp only
 refine hK _ _ (aA Qa) ?_
 clear hK K
 repeat (first|(refine ak (by rfl) ?_)|(refine zG (by rfl) (by rfl) (fun K hK=>?_);go_big_quiet_op;refine hK _ ?_;clear hK K))
 refine bQ ?_
 have Pj:=Lib.hid (ag xy.out Qa)
 clear k1 k2 hd5 hv5 hv6 Qa
 go_wp2_with fail
 go_ret
 exact⟨rfl,Pj.out⟩
end Go.Proofs.YtfieenjdcpjmgaaGreatDoor
