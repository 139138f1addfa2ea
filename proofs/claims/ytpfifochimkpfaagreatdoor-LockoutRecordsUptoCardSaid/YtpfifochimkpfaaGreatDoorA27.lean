/- A part of the proof. -/
import Derived.Test.YtpfifochimkpfaaGreatDoorA26
import Derived.Test.YtpfifochimkpfaaGreatDoorA25
import Derived.Test.YtpfifochimkpfaaGreatDoorA05
import Derived.Lib.ItoaNum
import Derived.Test.YtpfifochimkpfaaGreatDoorA06
import Derived.Test.YtpfifochimkpfaaGreatDoorA04
import Derived.Test.YtpfifochimkpfaaGreatDoorA20
import Derived.Test.YtpfifochimkpfaaGreatDoorA10
set_option maxRecDepth 100000
set_option maxHeartbeats 16000000
namespace Go.Proofs.YtpfifochimkpfaaGreatDoor
open Go.RowKit Go.WW
theorem ajN(v:Int)(w:World)(h0:0≤v):Calls Tryz.prog 98 #[.int .i64 v] w (bG w (uC v.toNat)):=by
 have:=ajJ v.toNat w
 rwa[Int.toNat_of_nonneg h0]at this
theorem ajO(r:aK)(d:Entry)(w:World)(he:aS w r d)(hf:zM d):Calls Tryz.prog 56 #[.agg (ae r d)] w (bG w (pI d)):=by
 have hB0:Below w.heap.size w (w.alloc (.cells (ae r d) 44)):=ay (Below.refl _ _) _
 have nV:=he.later hB0
 have hT:=NH hf
 have HF:=Lib.hid (Nat.le_trans (NI hf) (by decide:416080≤1000000))
 have HK:=Lib.hid hf.keys.1
 have HH:=Lib.hid hf.history.1
 have hkn:=hf.keys.2
 have hhn:=hf.history.2
 have BD:(dM (d.keys.map jg)).length≤26000:=by
  have h1:=map_le (f:=jg) (m:=1605) (n:=16) (l:=d.keys) (fun k hk=>NF (hf.keys.1 k hk)) hf.keys.2
  have h2:=uD (d.keys.map jg)
  omega
 have BF:(dM (d.history.map gp)).length≤26000:=by
  have h1:=map_le (f:=gp) (m:=21) (n:=16) (l:=d.history) (fun b hb=>by have:=Bz b;have:=hf.history.1 b hb;omega) hf.history.2
  have h2:=uD (d.history.map gp)
  omega
 have HT:=Lib.hid (show pI d=dM (dR 0 (oM d)) from rfl)
 have HB4:=Lib.hid BD
 have ajP:=Lib.hid BF
 have HBT:=Lib.hid hT
 have HFF:=Lib.hid hf
 rw[HT.out]
 obtain⟨an8,NZ⟩:∃x,x=dM (dR 0 (oM d)):=⟨_,rfl⟩
 have HG:=Lib.hid NZ
 rw[←NZ]
 clear BD BF hT hf NZ
 go_enter Tryz.func56,Tryz.ntmps56
 go_wp2_with fail
 go_loopw [3,5] (fun bv iv wr=>∃(n:Nat) (so:Sl) (L:List (List UInt8)),n≤d.keys.length∧iv=.int .i64 n∧bv=.slice so.a L.length so.cap∧ig 58 (w.alloc (.cells (ae r d) 44)) wr so L∧Hid (L=(d.keys.take n).map jg)) (fun _ i _=>d.keys.length-(intOf i).toNat)
 case atStart=>exact⟨0,⟨none,0⟩,[],Nat.zero_le _,rfl,rfl,ig.none _ (Below.refl _ _),rfl⟩
 case round=>
  obtain⟨n,so,L,hn,rfl,rfl,hH,HL⟩:=hrel
  obtain⟨hcc,bf,hrr⟩:=aQ hH.b
  have hwl:w.heap.size<wr.heap.size:=by have:=hH.b.size;simp at this;omega
  by_cases hlt:n<d.keys.length
  ·obtain⟨b,o,t,ha,hrow,hp⟩:=(nV.keys.later hH.b).get n hlt
   have hbb:b<wr.heap.size:=fA hrow
   obtain⟨L',hL'⟩:∃L',L'=(d.keys.take (n+1)).map jg:=⟨_,rfl⟩
   obtain⟨x,hx⟩:∃x,x=jg d.keys[n]:=⟨_,rfl⟩
   have HA:=Lib.hid (show L'=L++[x] by rw[hL',hx,vY _ hlt HL.out])
   have hLn:L'.length≤1000000:=by rw[hL',List.length_map,List.length_take];omega
   have kC:=Lib.hid hL'
   have HX:=Lib.hid hx
   clear hL' hx
   go_wp2_with fail
   refine(ajM t d.keys[n] _ hp (HK.out _ (List.getElem_mem hlt))).mono ?_
   rw[←HX.out]
   rintro e w2 ⟨s2,rfl,hb2,hd2⟩
   clear hcc bf hrr
   go_wp2_with (at_builtin;refine rY (L:=L') rfl _ _ _ rfl pX hH hb2 hd2 rfl rfl rfl rfl HA.out hLn ?_;intro s3 w3 hH3)
   go_roundw
   case rel=>exact⟨n+1,s3,L',by omega,by go_num,rfl,hH3,kC.out⟩
   case measure=>simp[intOf];omega
  ·have HE:=Lib.hid (show L=d.keys.map jg by rw[HL.out,vZ _ hlt])
   have HLn:=Lib.hid (show(L.length:Int)=d.keys.length by rw[HE.out,List.length_map])
   have BC:L.length≤16:=by have:=HLn.out;omega
   have hh1:=(hH.hist (by unfold lim;omega)).out
   have hb1:=hH.b
   have N7:=Lib.hid (show dm (d.keys.map jg)=dm L by rw[HE.out])
   have HC4:=Lib.hid (NU L)
   have BD:=HB4.out
   rw[←HE.out]at BD
   have HQ4:=Lib.hid BD
   clear BD
   clear hH HL
   go_wp2_with fail
   clear hcc bf hrr
   go_loopw [4,6] (fun bv iv wx=>∃(n:Nat) (so:Sl) (L:List (List UInt8)),n≤d.history.length∧iv=.int .i64 n∧bv=.slice so.a L.length so.cap∧ig 58 wr wx so L∧Hid (L=(d.history.take n).map gp)) (fun _ i _=>d.history.length-(intOf i).toNat)
   case atStart=>exact⟨0,⟨none,0⟩,[],Nat.zero_le _,rfl,rfl,ig.none _ (Below.refl _ _),rfl⟩
   case round=>
    obtain⟨n,so2,L2,hn,rfl,rfl,hH,HL⟩:=hrel
    have hb2:=ag hb1 hH.b
    obtain⟨hcc,bf,hrr⟩:=aQ hb2
    have aoa:=Nat.lt_of_lt_of_le hwl hH.b.size
    by_cases hlt:n<d.history.length
    ·obtain⟨b,o,t,ha,hck,hp⟩:=(nV.history.later hb2).get n hlt
     have hbb:=World.block_lt_of_cell? _ _ hck
     obtain⟨L',hL'⟩:∃L',L'=(d.history.take (n+1)).map gp:=⟨_,rfl⟩
     obtain⟨x,hx⟩:∃x,x=gp d.history[n]:=⟨_,rfl⟩
     have HA:=Lib.hid (show L'=L2++[x] by rw[hL',hx,vY _ hlt HL.out])
     have hLn:L'.length≤1000000:=by rw[hL',List.length_map,List.length_take];omega
     have kC:=Lib.hid hL'
     have HX:=Lib.hid hx
     have h16:=Lib.hid (HH.out _ (List.getElem_mem hlt))
     clear hL' hx
     go_wp2_with fail
     refine(Wx _ _ d.history[n] _ hp (by rw[h16.out];decide)).mono ?_
     rw[←HX.out]
     rintro e w2 ⟨s2,rfl,hbc,hd2⟩
     clear hcc bf hrr
     go_wp2_with (at_builtin;refine rY (L:=L') rfl _ _ _ rfl pX hH hbc hd2 rfl rfl rfl rfl HA.out hLn ?_;intro s3 w3 hH3)
     go_roundw
     case rel=>exact⟨n+1,s3,L',by omega,by go_num,rfl,hH3,kC.out⟩
     case measure=>simp[intOf];omega
    ·have HE2:=Lib.hid (show L2=d.history.map gp by rw[HL.out,vZ _ hlt])
     have ajU:=Lib.hid (show(L2.length:Int)=d.history.length by rw[HE2.out,List.length_map])
     have aob:L2.length≤16:=by have:=ajU.out;omega
     have hh2:=(hH.hist (by unfold lim;omega)).out
     have ajV:=hh1.later hH.b
     have IL:=nV.later hb2
     have NY:=ag hB0 hb2
     have N8:=Lib.hid (show dm (d.history.map gp)=dm L2 by rw[HE2.out])
     have ajW:=Lib.hid (NU L2)
     have BF:=ajP.out
     rw[←HE2.out]at BF
     have ajX:=Lib.hid BF
     have hT:=HBT.out
     have hf:=HFF.out
     clear BF
     clear hH HL hh1 hb1 nV
     obtain⟨f1,f2,f3,f4,-,f6,f7,f8,f9,f10,f11,f12,f13,f14,f15,-⟩:=hf
     have c5:=Lib.hid (NW d.aP)
     simp only[oM,List.mem_cons,List.not_mem_nil,or_false,forall_eq_or_imp,forall_eq]at hT
     obtain⟨g0,g1,g2,g3,g4,g5,g6,g7,g8,g9,g10,g11,g12,g13,g14,g15⟩:=hT
     simp only[N7.out,N8.out]at g4 g15
     have hfl:=HF.out
     simp only[oM,dR,N7.out,N8.out]at hfl
     have D9:=Lib.hid hfl
     have G0:=Lib.hid g0;have G1:=Lib.hid g1;have G2:=Lib.hid g2;have G3:=Lib.hid g3;have G4:=Lib.hid g4;have G5:=Lib.hid g5;have G6:=Lib.hid g6;have G7:=Lib.hid g7
     have G8:=Lib.hid g8;have G9:=Lib.hid g9;have G10:=Lib.hid g10;have G11:=Lib.hid g11;have G12:=Lib.hid g12;have G13:=Lib.hid g13;have G14:=Lib.hid g14;have G15:=Lib.hid g15
     clear hfl g0 g1 g2 g3 g4 g5 g6 g7 g8 g9 g10 g11 g12 g13 g14 g15
     go_wp2_with fail
     refine nz (Below.refl _ _) (by kernel_rfl) (by kernel_rfl) ?_
     intro v0 hv0
     have hP0:Ps _ v0 []:=⟨hv0,by simp⟩
     repeat (first|(refine ai (by rfl) ?_)|(refine au (by rfl) (by rfl) (fun K hK=>?_);go_big_quiet_op;refine hK _ ?_;clear hK K))
     refine aB (by rfl) (by rfl) (fun K hK=>?_)
     go_wp2_with fail
     refine(WE _ _ _ (IL.name.later hP0.b) f1).mono ?_
     rintro e v1 ⟨s1,rfl,hb1,hd1⟩
     have hP1:=hP0.mid hb1
     clear hP0 hb1
     refine hK _ _ (aj hP1.b) ?_
     clear hK K
     repeat (first|(refine ai (by rfl) ?_)|(refine au (by rfl) (by rfl) (fun K hK=>?_);go_big_quiet_op;refine hK _ ?_;clear hK K))
     refine aB (by rfl) (by rfl) (fun K hK=>?_)
     go_wp2_with fail
     refine(jh 0 0 _ _ _ _ rfl (by decide) hd1.out (Nat.le_trans G0.out (by decide))).mono ?_
     rintro e v2 ⟨s2,rfl,hb2,hd2⟩
     have hP2:=hP1.add hb2 hd2.out
     clear hP1 hb2 hd1 hd2
     refine hK _ _ (aj hP2.b) ?_
     clear hK K
     repeat (first|(refine ai (by rfl) ?_)|(refine au (by rfl) (by rfl) (fun K hK=>?_);go_big_quiet_op;refine hK _ ?_;clear hK K))
     refine aB (by rfl) (by rfl) (fun K hK=>?_)
     go_wp2_with fail
     refine(NV _ _ _ _ (IL.aliases.later hP2.b) f2).mono ?_
     rintro e v3 ⟨s3,rfl,hb3,hd3⟩
     have hP3:=hP2.mid hb3
     clear hP2 hb3
     refine hK _ _ (aj hP3.b) ?_
     clear hK K
     repeat (first|(refine ai (by rfl) ?_)|(refine au (by rfl) (by rfl) (fun K hK=>?_);go_big_quiet_op;refine hK _ ?_;clear hK K))
     refine aB (by rfl) (by rfl) (fun K hK=>?_)
     go_wp2_with fail
     refine(jh 1 1 _ _ _ _ rfl (by decide) hd3.out (Nat.le_trans G1.out (by decide))).mono ?_
     rintro e v4 ⟨s4,rfl,hb4,hd4⟩
     have kD:=hP3.add hb4 hd4.out
     clear hP3 hb4 hd3 hd4
     refine hK _ _ (aj kD.b) ?_
     clear hK K
     repeat (first|(refine ai (by rfl) ?_)|(refine au (by rfl) (by rfl) (fun K hK=>?_);go_big_quiet_op;refine hK _ ?_;clear hK K))
     refine aB (by rfl) (by rfl) (fun K hK=>?_)
     go_wp2_with fail
     refine(ajN _ _ f3.1).mono ?_
     rintro e v5 ⟨s5,rfl,hb5,hd5⟩
     have jP:=kD.mid hb5
     clear kD hb5
     refine hK _ _ (aj jP.b) ?_
     clear hK K
     repeat (first|(refine ai (by rfl) ?_)|(refine au (by rfl) (by rfl) (fun K hK=>?_);go_big_quiet_op;refine hK _ ?_;clear hK K))
     refine aB (by rfl) (by rfl) (fun K hK=>?_)
     go_wp2_with fail
     refine(jh 2 2 _ _ _ _ rfl (by decide) hd5.out (Nat.le_trans G2.out (by decide))).mono ?_
     rintro e v6 ⟨s6,rfl,hb6,hd6⟩
     have oN:=jP.add hb6 hd6.out
     clear jP hb6 hd5 hd6
     refine hK _ _ (aj oN.b) ?_
     clear hK K
     repeat (first|(refine ai (by rfl) ?_)|(refine au (by rfl) (by rfl) (fun K hK=>?_);go_big_quiet_op;refine hK _ ?_;clear hK K))
     refine aB (by rfl) (by rfl) (fun K hK=>?_)
     go_wp2_with fail
     refine(IJ _ _ f4.1 (by omega)).mono ?_
     rintro e v7 ⟨s7,rfl,hb7,hd7⟩
     have rZ:=oN.mid hb7
     clear oN hb7
     refine hK _ _ (aj rZ.b) ?_
     clear hK K
     repeat (first|(refine ai (by rfl) ?_)|(refine au (by rfl) (by rfl) (fun K hK=>?_);go_big_quiet_op;refine hK _ ?_;clear hK K))
     refine aB (by rfl) (by rfl) (fun K hK=>?_)
     go_wp2_with fail
     refine(jh 3 3 _ _ _ _ rfl (by decide) hd7.out (Nat.le_trans G3.out (by decide))).mono ?_
     rintro e v8 ⟨s8,rfl,hb8,hd8⟩
     have pK:=rZ.add hb8 hd8.out
     clear rZ hb8 hd7 hd8
     refine hK _ _ (aj pK.b) ?_
     clear hK K
     repeat (first|(refine ai (by rfl) ?_)|(refine au (by rfl) (by rfl) (fun K hK=>?_);go_big_quiet_op;refine hK _ ?_;clear hK K))
     refine aB (by rfl) (by rfl) (fun K hK=>?_)
     go_wp2_with fail
     refine(uG _ _ L _ (ajV.later pK.b) (by have h9:=oL 48 L.flatten;have:(dM L).length=(tlv 48 L.flatten).length:=rfl;have:=HQ4.out;omega)).mono ?_
     rintro e v9 ⟨s9,rfl,iG,hd9⟩
     have xQ:=pK.mid iG
     clear pK iG
     refine hK _ _ (aj xQ.b) ?_
     clear hK K
     repeat (first|(refine ai (by rfl) ?_)|(refine au (by rfl) (by rfl) (fun K hK=>?_);go_big_quiet_op;refine hK _ ?_;clear hK K))
     refine aB (by rfl) (by rfl) (fun K hK=>?_)
     go_wp2_with fail
     refine(vX _ s9 _ (dm L) _ hd9 HC4.out).mono ?_
     rintro e _ ⟨s10,rfl,rfl,hd10⟩
     clear hd9
     refine hK _ _ (aj xQ.b) ?_
     clear hK K
     repeat (first|(refine ai (by rfl) ?_)|(refine au (by rfl) (by rfl) (fun K hK=>?_);go_big_quiet_op;refine hK _ ?_;clear hK K))
     refine aB (by rfl) (by rfl) (fun K hK=>?_)
     go_wp2_with fail
     refine(jh 4 4 _ _ _ _ rfl (by decide) hd10.out (Nat.le_trans G4.out (by decide))).mono ?_
     rintro e v11 ⟨s11,rfl,rH,hd11⟩
     have sF:=xQ.add rH hd11.out
     clear xQ rH hd10 hd11
     refine hK _ _ (aj sF.b) ?_
     clear hK K
     repeat (first|(refine ai (by rfl) ?_)|(refine au (by rfl) (by rfl) (fun K hK=>?_);go_big_quiet_op;refine hK _ ?_;clear hK K))
     refine aB (by rfl) (by rfl) (fun K hK=>?_)
     go_wp2_with fail
     refine(IE _ _ (Nat.le_trans f6 (by decide))).mono ?_
     rintro e v12 ⟨s12,rfl,fJ,xP⟩
     have nU:=sF.mid fJ
     clear sF fJ
     refine hK _ _ (aj nU.b) ?_
     clear hK K
     repeat (first|(refine ai (by rfl) ?_)|(refine au (by rfl) (by rfl) (fun K hK=>?_);go_big_quiet_op;refine hK _ ?_;clear hK K))
     refine aB (by rfl) (by rfl) (fun K hK=>?_)
     go_wp2_with fail
     refine(vX _ s12 _ (jO d.aP) _ xP c5.out).mono ?_
     rintro e _ ⟨s13,rfl,rfl,Ea⟩
     clear xP
     refine hK _ _ (aj nU.b) ?_
     clear hK K
     repeat (first|(refine ai (by rfl) ?_)|(refine au (by rfl) (by rfl) (fun K hK=>?_);go_big_quiet_op;refine hK _ ?_;clear hK K))
     refine aB (by rfl) (by rfl) (fun K hK=>?_)
     go_wp2_with fail
     refine(jh 5 5 _ _ _ _ rfl (by decide) Ea.out (Nat.le_trans G5.out (by decide))).mono ?_
     rintro e v14 ⟨s14,rfl,zn,Eb⟩
     have xR:=nU.add zn Eb.out
     clear nU zn Ea Eb
     refine hK _ _ (aj xR.b) ?_
     clear hK K
     repeat (first|(refine ai (by rfl) ?_)|(refine au (by rfl) (by rfl) (fun K hK=>?_);go_big_quiet_op;refine hK _ ?_;clear hK K))
     refine aB (by rfl) (by rfl) (fun K hK=>?_)
     go_wp2_with fail
     refine(IK _ _ f7.1).mono ?_
     rintro e v15 ⟨s15,rfl,zq,Ec⟩
     have xU:=xR.mid zq
     clear xR zq
     refine hK _ _ (aj xU.b) ?_
     clear hK K
     repeat (first|(refine ai (by rfl) ?_)|(refine au (by rfl) (by rfl) (fun K hK=>?_);go_big_quiet_op;refine hK _ ?_;clear hK K))
     refine aB (by rfl) (by rfl) (fun K hK=>?_)
     go_wp2_with fail
     refine(jh 6 6 _ _ _ _ rfl (by decide) Ec.out (Nat.le_trans G6.out (by decide))).mono ?_
     rintro e v16 ⟨s16,rfl,hb16,Ed⟩
     have uH:=xU.add hb16 Ed.out
     clear xU hb16 Ec Ed
     refine hK _ _ (aj uH.b) ?_
     clear hK K
     repeat (first|(refine ai (by rfl) ?_)|(refine au (by rfl) (by rfl) (fun K hK=>?_);go_big_quiet_op;refine hK _ ?_;clear hK K))
     refine aB (by rfl) (by rfl) (fun K hK=>?_)
     go_wp2_with fail
     refine(IK _ _ f8.1).mono ?_
     rintro e v17 ⟨s17,rfl,WI,WJ⟩
     have N9:=uH.mid WI
     clear uH WI
     refine hK _ _ (aj N9.b) ?_
     clear hK K
     repeat (first|(refine ai (by rfl) ?_)|(refine au (by rfl) (by rfl) (fun K hK=>?_);go_big_quiet_op;refine hK _ ?_;clear hK K))
     refine aB (by rfl) (by rfl) (fun K hK=>?_)
     go_wp2_with fail
     refine(jh 7 7 _ _ _ _ rfl (by decide) WJ.out (Nat.le_trans G7.out (by decide))).mono ?_
     rintro e v18 ⟨s18,rfl,WL,WM⟩
     have Oa:=N9.add WL WM.out
     clear N9 WL WJ WM
     refine hK _ _ (aj Oa.b) ?_
     clear hK K
     repeat (first|(refine ai (by rfl) ?_)|(refine au (by rfl) (by rfl) (fun K hK=>?_);go_big_quiet_op;refine hK _ ?_;clear hK K))
     refine aB (by rfl) (by rfl) (fun K hK=>?_)
     go_wp2_with fail
     refine(IJ _ _ f9.1 (by omega)).mono ?_
     rintro e v19 ⟨s19,rfl,WN,WO⟩
     have Ob:=Oa.mid WN
     clear Oa WN
     refine hK _ _ (aj Ob.b) ?_
     clear hK K
     repeat (first|(refine ai (by rfl) ?_)|(refine au (by rfl) (by rfl) (fun K hK=>?_);go_big_quiet_op;refine hK _ ?_;clear hK K))
     refine aB (by rfl) (by rfl) (fun K hK=>?_)
     go_wp2_with fail
     refine(jh 8 8 _ _ _ _ rfl (by decide) WO.out (Nat.le_trans G8.out (by decide))).mono ?_
     rintro e v20 ⟨s20,rfl,WQ,WR⟩
     have Oc:=Ob.add WQ WR.out
     clear Ob WQ WO WR
     refine hK _ _ (aj Oc.b) ?_
     clear hK K
     repeat (first|(refine ai (by rfl) ?_)|(refine au (by rfl) (by rfl) (fun K hK=>?_);go_big_quiet_op;refine hK _ ?_;clear hK K))
     refine aB (by rfl) (by rfl) (fun K hK=>?_)
     go_wp2_with fail
     refine(IJ _ _ f10.1 (by omega)).mono ?_
     rintro e v21 ⟨s21,rfl,WS,WT⟩
     have Oe:=Oc.mid WS
     clear Oc WS
     refine hK _ _ (aj Oe.b) ?_
     clear hK K
     repeat (first|(refine ai (by rfl) ?_)|(refine au (by rfl) (by rfl) (fun K hK=>?_);go_big_quiet_op;refine hK _ ?_;clear hK K))
     refine aB (by rfl) (by rfl) (fun K hK=>?_)
     go_wp2_with fail
     refine(jh 9 9 _ _ _ _ rfl (by decide) WT.out (Nat.le_trans G9.out (by decide))).mono ?_
     rintro e v22 ⟨s22,rfl,WU,WV⟩
     have Og:=Oe.add WU WV.out
     clear Oe WU WT WV
     refine hK _ _ (aj Og.b) ?_
     clear hK K
     repeat (first|(refine ai (by rfl) ?_)|(refine au (by rfl) (by rfl) (fun K hK=>?_);go_big_quiet_op;refine hK _ ?_;clear hK K))
     refine aB (by rfl) (by rfl) (fun K hK=>?_)
     go_wp2_with fail
     refine(IJ _ _ f11.1 (by omega)).mono ?_
     rintro e v23 ⟨s23,rfl,WX,WY⟩
     have Oh:=Og.mid WX
     clear Og WX
     refine hK _ _ (aj Oh.b) ?_
     clear hK K
     repeat (first|(refine ai (by rfl) ?_)|(refine au (by rfl) (by rfl) (fun K hK=>?_);go_big_quiet_op;refine hK _ ?_;clear hK K))
     refine aB (by rfl) (by rfl) (fun K hK=>?_)
     go_wp2_with fail
     refine(jh 10 10 _ _ _ _ rfl (by decide) WY.out (Nat.le_trans G10.out (by decide))).mono ?_
     rintro e v24 ⟨s24,rfl,mY,hd24⟩
     have Oi:=Oh.add mY hd24.out
     clear Oh mY WY hd24
     refine hK _ _ (aj Oi.b) ?_
     clear hK K
     repeat (first|(refine ai (by rfl) ?_)|(refine au (by rfl) (by rfl) (fun K hK=>?_);go_big_quiet_op;refine hK _ ?_;clear hK K))
     refine aB (by rfl) (by rfl) (fun K hK=>?_)
     go_wp2_with fail
     refine(IK _ _ f12.1).mono ?_
     rintro e v25 ⟨s25,rfl,wu,hd25⟩
     have Oj:=Oi.mid wu
     clear Oi wu
     refine hK _ _ (aj Oj.b) ?_
     clear hK K
     repeat (first|(refine ai (by rfl) ?_)|(refine au (by rfl) (by rfl) (fun K hK=>?_);go_big_quiet_op;refine hK _ ?_;clear hK K))
     refine aB (by rfl) (by rfl) (fun K hK=>?_)
     go_wp2_with fail
     refine(jh 11 11 _ _ _ _ rfl (by decide) hd25.out (Nat.le_trans G11.out (by decide))).mono ?_
     rintro e v26 ⟨s26,rfl,Ee,WZ⟩
     have Ol:=Oj.add Ee WZ.out
     clear Oj Ee hd25 WZ
     refine hK _ _ (aj Ol.b) ?_
     clear hK K
     repeat (first|(refine ai (by rfl) ?_)|(refine au (by rfl) (by rfl) (fun K hK=>?_);go_big_quiet_op;refine hK _ ?_;clear hK K))
     refine aB (by rfl) (by rfl) (fun K hK=>?_)
     go_wp2_with fail
     refine(IK _ _ f13.1).mono ?_
     rintro e v27 ⟨s27,rfl,IM,hd27⟩
     have Om:=Ol.mid IM
     clear Ol IM
     refine hK _ _ (aj Om.b) ?_
     clear hK K
     repeat (first|(refine ai (by rfl) ?_)|(refine au (by rfl) (by rfl) (fun K hK=>?_);go_big_quiet_op;refine hK _ ?_;clear hK K))
     refine aB (by rfl) (by rfl) (fun K hK=>?_)
     go_wp2_with fail
     refine(jh 12 12 _ _ _ _ rfl (by decide) hd27.out (Nat.le_trans G12.out (by decide))).mono ?_
     rintro e v28 ⟨s28,rfl,W9,hd28⟩
     have IP:=Om.add W9 hd28.out
     clear Om W9 hd27 hd28
     refine hK _ _ (aj IP.b) ?_
     clear hK K
     repeat (first|(refine ai (by rfl) ?_)|(refine au (by rfl) (by rfl) (fun K hK=>?_);go_big_quiet_op;refine hK _ ?_;clear hK K))
     refine aB (by rfl) (by rfl) (fun K hK=>?_)
     go_wp2_with fail
     refine(NV _ _ _ _ (IL.targets.later IP.b) f14).mono ?_
     rintro e v29 ⟨s29,rfl,Xa,hd29⟩
     have Oo:=IP.mid Xa
     clear IP Xa
     refine hK _ _ (aj Oo.b) ?_
     clear hK K
     repeat (first|(refine ai (by rfl) ?_)|(refine au (by rfl) (by rfl) (fun K hK=>?_);go_big_quiet_op;refine hK _ ?_;clear hK K))
     refine aB (by rfl) (by rfl) (fun K hK=>?_)
     go_wp2_with fail
     refine(jh 13 13 _ _ _ _ rfl (by decide) hd29.out (Nat.le_trans G13.out (by decide))).mono ?_
     rintro e v30 ⟨s30,rfl,Xb,Xc⟩
     have IQ:=Oo.add Xb Xc.out
     clear Oo Xb hd29 Xc
     refine hK _ _ (aj IQ.b) ?_
     clear hK K
     repeat (first|(refine ai (by rfl) ?_)|(refine au (by rfl) (by rfl) (fun K hK=>?_);go_big_quiet_op;refine hK _ ?_;clear hK K))
     refine aB (by rfl) (by rfl) (fun K hK=>?_)
     go_wp2_with fail
     refine(NV _ _ _ _ (IL.bW.later IQ.b) f15).mono ?_
     rintro e v31 ⟨s31,rfl,Xd,hd31⟩
     have Oq:=IQ.mid Xd
     clear IQ Xd
     refine hK _ _ (aj Oq.b) ?_
     clear hK K
     repeat (first|(refine ai (by rfl) ?_)|(refine au (by rfl) (by rfl) (fun K hK=>?_);go_big_quiet_op;refine hK _ ?_;clear hK K))
     refine aB (by rfl) (by rfl) (fun K hK=>?_)
     go_wp2_with fail
     refine(jh 14 14 _ _ _ _ rfl (by decide) hd31.out (Nat.le_trans G14.out (by decide))).mono ?_
     rintro e v32 ⟨s32,rfl,Xe,hd32⟩
     have IU:=Oq.add Xe hd32.out
     clear Oq Xe hd31 hd32
     refine hK _ _ (aj IU.b) ?_
     clear hK K
     repeat (first|(refine ai (by rfl) ?_)|(refine au (by rfl) (by rfl) (fun K hK=>?_);go_big_quiet_op;refine hK _ ?_;clear hK K))
     refine aB (by rfl) (by rfl) (fun K hK=>?_)
     go_wp2_with fail
     refine(uG _ _ L2 _ (hh2.later IU.b) (by have h9:=oL 48 L2.flatten;have:(dM L2).length=(tlv 48 L2.flatten).length:=rfl;have:=ajX.out;omega)).mono ?_
     rintro e v33 ⟨s33,rfl,Xf,Xg⟩
     have IV:=IU.mid Xf
     clear IU Xf
     refine hK _ _ (aj IV.b) ?_
     clear hK K
     repeat (first|(refine ai (by rfl) ?_)|(refine au (by rfl) (by rfl) (fun K hK=>?_);go_big_quiet_op;refine hK _ ?_;clear hK K))
     refine aB (by rfl) (by rfl) (fun K hK=>?_)
     go_wp2_with fail
     refine(vX _ s33 _ (dm L2) _ Xg ajW.out).mono ?_
     rintro e _ ⟨s34,rfl,rfl,hd34⟩
     clear Xg
     refine hK _ _ (aj IV.b) ?_
     clear hK K
     repeat (first|(refine ai (by rfl) ?_)|(refine au (by rfl) (by rfl) (fun K hK=>?_);go_big_quiet_op;refine hK _ ?_;clear hK K))
     refine aB (by rfl) (by rfl) (fun K hK=>?_)
     go_wp2_with fail
     refine(jh 15 15 _ _ _ _ rfl (by decide) hd34.out (Nat.le_trans G15.out (by decide))).mono ?_
     rintro e v35 ⟨s35,rfl,Xh,Xi⟩
     have BG:=IV.add Xh Xi.out
     clear IV Xh hd34 Xi
     refine hK _ _ (aj BG.b) ?_
     clear hK K
     repeat (first|(refine ai (by rfl) ?_)|(refine au (by rfl) (by rfl) (fun K hK=>?_);go_big_quiet_op;refine hK _ ?_;clear hK K))
     refine aB (by rfl) (by rfl) (fun K hK=>?_)
     go_wp2_with fail
     refine hK _ _ (aj (ay BG.b _)) ?_
     clear hK K
     repeat (first|(refine ai (by rfl) ?_)|(refine au (by rfl) (by rfl) (fun K hK=>?_);go_big_quiet_op;refine hK _ ?_;clear hK K))
     refine aB (by rfl) (by rfl) (fun K hK=>?_)
     go_wp2_with fail
     refine(uG _ _ [bQ 0 (fF d.name),bQ 1 (dm (d.aliases.map fF)),bQ 2 (uC d.attrs.toNat),bQ 3 (fP d.fH.toNat),bQ 4 (dm L),bQ 5 (jO d.aP),bQ 6 (jf d.jS.toNat),bQ 7 (jf d.jT.toNat),bQ 8 (fP d.jF.toNat),bQ 9 (fP d.jG.toNat),bQ 10 (fP d.fails.toNat),bQ 11 (jf d.dw.toNat),bQ 12 (jf d.iw.toNat),bQ 13 (dm (d.targets.map fF)),bQ 14 (dm (d.bW.map fF)),bQ 15 (dm L2)] _ (dY.lit _ rfl rfl BG.at_ (by simp[lim])) D9.out).mono ?_
     rintro e vz ⟨sz,rfl,hbz,hdz⟩
     have HB:=Lib.hid (bG.from (W:=w) ⟨sz,rfl,hbz,hdz⟩ (ag NY (ay BG.b _)))
     have sG:=ag (ay BG.b _) hbz
     clear BG hdz hbz
     refine hK _ _ (aj sG) ?_
     clear hK K
     repeat (first|(refine ai (by rfl) ?_)|(refine au (by rfl) (by rfl) (fun K hK=>?_);go_big_quiet_op;refine hK _ ?_;clear hK K))
     refine bz ?_
     go_wp2_with fail
     go_ret
     rw[HG.out]
     simp only[oM,dR,N7.out,N8.out]
     exact HB.out
end Go.Proofs.YtpfifochimkpfaaGreatDoor
namespace Go.WW
open Go.RowKit
def eF(n:Nat):ByteArray:=⟨(Lib.decDigits n).toArray⟩
theorem Ef{n:Nat}(h:n<10):eF n=⟨#[UInt8.ofNat (48+n)]⟩:=by unfold eF;rw[Lib.decDigits_one h]
theorem Xj{n:Nat}(h:¬n<10):eF n=eF (n / 10)++eF (n % 10):=by
 rw[Ef (show n % 10<10 by omega)]
 unfold eF
 rw[Lib.decDigits,dif_neg h]
 exact(ByteArray.mk_append_mk (Lib.decDigits (n / 10)) [UInt8.ofNat (48+n % 10)]).symm
theorem Ot:∀(k n:Nat),0<k→n<10 ^ k→(eF n).size≤k
 |0,_,h,_=>absurd h (Nat.lt_irrefl 0)
 |1,n,_,h=>by rw[Ef (by simpa using h)];exact Nat.le_refl _
 |k+2,n,_,h=>by
  by_cases h1:n<10
  ·rw[Ef h1];exact Nat.le_add_left 1 (k+1)
  ·rw[Xj h1,ByteArray.size_append]
   have h2:=Ot (k+1) (n / 10) (by omega) (by rw[Nat.div_lt_iff_lt_mul (by decide),←Nat.pow_succ];exact h)
   have h3:(eF (n % 10)).size=1:=by rw[Ef (by omega)];rfl
   omega
theorem Xk{n:Nat}(h:n<4611686018427387904):(eF n).size≤19:=Ot 19 n (by decide) (Nat.lt_trans h (by decide))
theorem aj7(m:Nat):(m:Int).tdiv 10=((m / 10:Nat):Int):=by
 rw[Int.tdiv_eq_ediv_of_nonneg (Int.natCast_nonneg _)];rfl
theorem aj8(m:Nat):(m:Int).tmod 10=((m % 10:Nat):Int):=by
 rw[Int.tmod_eq_emod_of_nonneg (Int.natCast_nonneg _)];rfl
end Go.WW
namespace Go.Proofs.YtpfifochimkpfaaGreatDoor
open Go.RowKit Go.WW
theorem aj9(n:Nat):∀(w:World),n<4611686018427387904→Calls Tryz.prog 91 #[.int .i64 n] w fun e w'=>e=.returned (.string (eF n))∧Below w.heap.size w w':=by
 induction n using Nat.strongRecOn with
 |_ n ih=>
  intro w hn
  by_cases h:n<10
  ·have hd:(n:Int)<10:=by omega
   obtain⟨c,hc⟩:∃c,c=UInt8.ofNat (48+n):=⟨_,rfl⟩
   have HD:=Lib.hid (show eF n=⟨#[c]⟩ by rw[Ef h,hc])
   have hcell:(c.toNat:Int)=48+(n:Int):=by rw[hc];simp;omega
   have hB:=ay (Below.refl _ w) (.cells #[.int .u8 (48+(n:Int))] 5)
   have hcv:=JJ (P:=Tryz.prog) (w.alloc (.cells #[.int .u8 (48+(n:Int))] 5)) 58 9 5 Tryz.underlying58 Tryz.underlying5 Tryz.underlying9 w.heap.size 0 1 [c] (fun i hi=>by
    obtain rfl:i=0:=by simp at hi;exact hi
    rw[cell_of_row _ _ _ _ _ _ (World.alloc_heap_new _ _)]
    simp only[List.getElem_cons_zero,hcell];rfl)
   have HB:=Lib.hid hB
   clear hcell hB hc
   rw[HD.out]
   go_enter Tryz.func91,Tryz.ntmps91
   go_wp2_with fail
   rw[show(convert 58 9 (.slice (some ⟨w.heap.size,0,none⟩) 1 1)).run Tryz.prog (w.alloc (.cells #[.int .u8 (48+(n:Int))] 5))=_ from hcv]
   go_wp2_with fail
   go_ret
   exact⟨rfl,HB.out⟩
  ·have hd:¬(n:Int)<10:=by omega
   have HD:=Lib.hid (Xj h)
   have hq:=aj7 n
   have hr:=aj8 n
   have H1:=Lib.hid (ih (n / 10) (by omega))
   have H2:=Lib.hid (ih (n % 10) (by omega))
   have h1:n / 10<4611686018427387904:=by omega
   have s1:=Xk h1
   have s2:=Xk (show n % 10<4611686018427387904 by omega)
   rw[HD.out]
   clear ih
   go_enter Tryz.func91,Tryz.ntmps91
   go_wp2_with fail
   refine(H1.out _ h1).mono ?_
   rintro e w1 ⟨rfl,hb1⟩
   go_wp2_with fail
   refine(H2.out _ (by omega)).mono ?_
   rintro e w2 ⟨rfl,hb2⟩
   go_wp2_with fail
   go_ret
   exact⟨rfl,ag hb1 hb2⟩
theorem wB(v:Int)(w:World)(h0:0≤v)(hv:v<4611686018427387904):Calls Tryz.prog 91 #[.int .i64 v] w fun e w'=>e=.returned (.string (eF v.toNat))∧Below w.heap.size w w':=by
 have:=aj9 v.toNat w (by omega)
 rwa[Int.toNat_of_nonneg h0]at this
end Go.Proofs.YtpfifochimkpfaaGreatDoor
namespace Go.WW
open Go.RowKit
def pM(p:ah):ByteArray:=((((((((((((((((((p.name++⟨#[32,108,101,110,103,116,104,61]⟩)++eF p.length.toNat)++⟨#[32,99,108,97,115,115,101,115,61]⟩)++eF p.classes.toNat)++⟨#[32,100,105,115,116,105,110,99,116,61]⟩)++eF p.distinct.toNat)++⟨#[32,104,105,115,116,111,114,121,61]⟩)++eF p.history.toNat)++⟨#[32,97,103,101,61]⟩)++eF p.iU.toNat)++⟨#[46,46]⟩)++eF p.eG.toNat)++⟨#[32,102,97,105,108,115,61]⟩)++eF p.fails.toNat)++⟨#[32,108,111,99,107,61]⟩)++eF p.window.toNat)++⟨#[47]⟩)++eF p.lock.toNat)
structure Ou(p:ah):Prop where
 name:p.name.size≤32
 length:0≤p.length∧p.length≤1099511627776
 classes:0≤p.classes∧p.classes≤1099511627776
 distinct:0≤p.distinct∧p.distinct≤1099511627776
 history:0≤p.history∧p.history≤1099511627776
 iU:0≤p.iU∧p.iU≤1099511627776
 eG:0≤p.eG∧p.eG≤1099511627776
 fails:0≤p.fails∧p.fails≤1099511627776
 window:0≤p.window∧p.window≤1099511627776
 lock:0≤p.lock∧p.lock≤1099511627776
theorem BH{p:ah}(h:dA p=true):Ou p:=by
 simp only[dA,oC,Bool.and_eq_true,EX]at h
 obtain⟨⟨⟨⟨⟨⟨⟨⟨⟨⟨⟨-,h0⟩,h1⟩,h2⟩,h3⟩,h4⟩,h5⟩,h6⟩,-⟩,h7⟩,h8⟩,h9⟩:=h
 exact⟨by omega,by omega,by omega,by omega,by omega,by omega,by omega,by omega,by omega,by omega⟩
theorem iZ{v:Int}(h:0≤v∧v≤1099511627776):(eF v.toNat).size≤13:=Ot 13 v.toNat (by decide) (by omega)
end Go.WW
namespace Go.Proofs.YtpfifochimkpfaaGreatDoor
open Go.RowKit Go.WW
theorem aka(p:ah)(w:World)(hf:Ou p):Calls Tryz.prog 55 #[.agg (ak p)] w fun e w'=>e=.returned (.string (pM p))∧Below w.heap.size w w':=by
 have hB0:Below w.heap.size w (w.alloc (.cells (ak p) 52)):=ay (Below.refl _ _) _
 obtain⟨f0,f1,f2,f3,f4,f5,f6,f7,f8,f9⟩:=hf
 have d1:=iZ f1
 have d2:=iZ f2
 have d3:=iZ f3
 have d4:=iZ f4
 have d5:=iZ f5
 have d6:=iZ f6
 have d7:=iZ f7
 have d8:=iZ f8
 have d9:=iZ f9
 obtain⟨S1,g1⟩:∃S,p.name++⟨#[32,108,101,110,103,116,104,61]⟩=S:=⟨_,rfl⟩
 have z1:S1.size≤42:=by rw[←g1,ByteArray.size_append];exact Nat.add_le_add f0 (by decide:_≤10)
 obtain⟨S2,g2⟩:∃S,S1++eF p.length.toNat=S:=⟨_,rfl⟩
 have z2:S2.size≤55:=by rw[←g2,ByteArray.size_append];exact Nat.add_le_add z1 d1
 obtain⟨S3,g3⟩:∃S,S2++⟨#[32,99,108,97,115,115,101,115,61]⟩=S:=⟨_,rfl⟩
 have z3:S3.size≤65:=by rw[←g3,ByteArray.size_append];exact Nat.add_le_add z2 (by decide:_≤10)
 obtain⟨S4,g4⟩:∃S,S3++eF p.classes.toNat=S:=⟨_,rfl⟩
 have z4:S4.size≤78:=by rw[←g4,ByteArray.size_append];exact Nat.add_le_add z3 d2
 obtain⟨S5,g5⟩:∃S,S4++⟨#[32,100,105,115,116,105,110,99,116,61]⟩=S:=⟨_,rfl⟩
 have z5:S5.size≤88:=by rw[←g5,ByteArray.size_append];exact Nat.add_le_add z4 (by decide:_≤10)
 obtain⟨S6,g6⟩:∃S,S5++eF p.distinct.toNat=S:=⟨_,rfl⟩
 have z6:S6.size≤101:=by rw[←g6,ByteArray.size_append];exact Nat.add_le_add z5 d3
 obtain⟨S7,g7⟩:∃S,S6++⟨#[32,104,105,115,116,111,114,121,61]⟩=S:=⟨_,rfl⟩
 have z7:S7.size≤111:=by rw[←g7,ByteArray.size_append];exact Nat.add_le_add z6 (by decide:_≤10)
 obtain⟨S8,g8⟩:∃S,S7++eF p.history.toNat=S:=⟨_,rfl⟩
 have z8:S8.size≤124:=by rw[←g8,ByteArray.size_append];exact Nat.add_le_add z7 d4
 obtain⟨S9,g9⟩:∃S,S8++⟨#[32,97,103,101,61]⟩=S:=⟨_,rfl⟩
 have z9:S9.size≤134:=by rw[←g9,ByteArray.size_append];exact Nat.add_le_add z8 (by decide:_≤10)
 obtain⟨Eg,g10⟩:∃S,S9++eF p.iU.toNat=S:=⟨_,rfl⟩
 have z10:Eg.size≤147:=by rw[←g10,ByteArray.size_append];exact Nat.add_le_add z9 d5
 obtain⟨wC,g11⟩:∃S,Eg++⟨#[46,46]⟩=S:=⟨_,rfl⟩
 have z11:wC.size≤157:=by rw[←g11,ByteArray.size_append];exact Nat.add_le_add z10 (by decide:_≤10)
 obtain⟨Xl,g12⟩:∃S,wC++eF p.eG.toNat=S:=⟨_,rfl⟩
 have z12:Xl.size≤170:=by rw[←g12,ByteArray.size_append];exact Nat.add_le_add z11 d6
 obtain⟨Xm,g13⟩:∃S,Xl++⟨#[32,102,97,105,108,115,61]⟩=S:=⟨_,rfl⟩
 have z13:Xm.size≤180:=by rw[←g13,ByteArray.size_append];exact Nat.add_le_add z12 (by decide:_≤10)
 obtain⟨Xn,g14⟩:∃S,Xm++eF p.fails.toNat=S:=⟨_,rfl⟩
 have z14:Xn.size≤193:=by rw[←g14,ByteArray.size_append];exact Nat.add_le_add z13 d7
 obtain⟨Xo,g15⟩:∃S,Xn++⟨#[32,108,111,99,107,61]⟩=S:=⟨_,rfl⟩
 have z15:Xo.size≤203:=by rw[←g15,ByteArray.size_append];exact Nat.add_le_add z14 (by decide:_≤10)
 obtain⟨Xp,g16⟩:∃S,Xo++eF p.window.toNat=S:=⟨_,rfl⟩
 have z16:Xp.size≤216:=by rw[←g16,ByteArray.size_append];exact Nat.add_le_add z15 d8
 obtain⟨Xq,g17⟩:∃S,Xp++⟨#[47]⟩=S:=⟨_,rfl⟩
 have z17:Xq.size≤226:=by rw[←g17,ByteArray.size_append];exact Nat.add_le_add z16 (by decide:_≤10)
 obtain⟨Xr,g18⟩:∃S,Xq++eF p.lock.toNat=S:=⟨_,rfl⟩
 have z18:Xr.size≤239:=by rw[←g18,ByteArray.size_append];exact Nat.add_le_add z17 d9
 have HT:=Lib.hid (show pM p=Xr by rw[←g18,←g17,←g16,←g15,←g14,←g13,←g12,←g11,←g10,←g9,←g8,←g7,←g6,←g5,←g4,←g3,←g2,←g1];rfl)
 rw[HT.out]
 go_enter Tryz.func55,Tryz.ntmps55
 go_wp2_with fail
 refine nz (Below.refl _ (w.alloc (.cells (ak p) 52))) (by kernel_rfl) (by kernel_rfl) ?_
 intro v0 hv0
 repeat (first|(refine ai (by rfl) ?_)|(refine au (by rfl) (by rfl) (fun K hK=>?_);go_big_quiet_op;refine hK _ ?_;clear hK K))
 refine aB (by rfl) (by rfl) (fun K hK=>?_)
 go_wp2_with fail
 refine(wB _ _ f1.1 (by omega)).mono ?_
 rintro e v1 ⟨rfl,hb1⟩
 have hw1:=ag hv0 hb1
 clear hv0 hb1
 refine hK _ _ (aj hw1) ?_
 clear hK K
 repeat (first|(refine ai (by rfl) ?_)|(refine au (by rfl) (by rfl) (fun K hK=>?_);go_big_quiet_op;refine hK _ ?_;clear hK K))
 refine aB (by rfl) (by rfl) (fun K hK=>?_)
 go_wp2_with fail
 refine(wB _ _ f2.1 (by omega)).mono ?_
 rintro e v2 ⟨rfl,hb2⟩
 have hw2:=ag hw1 hb2
 clear hw1 hb2
 refine hK _ _ (aj hw2) ?_
 clear hK K
 repeat (first|(refine ai (by rfl) ?_)|(refine au (by rfl) (by rfl) (fun K hK=>?_);go_big_quiet_op;refine hK _ ?_;clear hK K))
 refine aB (by rfl) (by rfl) (fun K hK=>?_)
 go_wp2_with fail
 refine(wB _ _ f3.1 (by omega)).mono ?_
 rintro e v3 ⟨rfl,hb3⟩
 have hw3:=ag hw2 hb3
 clear hw2 hb3
 refine hK _ _ (aj hw3) ?_
 clear hK K
 repeat (first|(refine ai (by rfl) ?_)|(refine au (by rfl) (by rfl) (fun K hK=>?_);go_big_quiet_op;refine hK _ ?_;clear hK K))
 refine aB (by rfl) (by rfl) (fun K hK=>?_)
 go_wp2_with fail
 refine(wB _ _ f4.1 (by omega)).mono ?_
 rintro e v4 ⟨rfl,hb4⟩
 have hw4:=ag hw3 hb4
 clear hw3 hb4
 refine hK _ _ (aj hw4) ?_
 clear hK K
 repeat (first|(refine ai (by rfl) ?_)|(refine au (by rfl) (by rfl) (fun K hK=>?_);go_big_quiet_op;refine hK _ ?_;clear hK K))
 refine aB (by rfl) (by rfl) (fun K hK=>?_)
 go_wp2_with fail
 refine(wB _ _ f5.1 (by omega)).mono ?_
 rintro e v5 ⟨rfl,hb5⟩
 have hw5:=ag hw4 hb5
 clear hw4 hb5
 refine hK _ _ (aj hw5) ?_
 clear hK K
 repeat (first|(refine ai (by rfl) ?_)|(refine au (by rfl) (by rfl) (fun K hK=>?_);go_big_quiet_op;refine hK _ ?_;clear hK K))
 refine aB (by rfl) (by rfl) (fun K hK=>?_)
 go_wp2_with fail
 refine(wB _ _ f6.1 (by omega)).mono ?_
 rintro e v6 ⟨rfl,hb6⟩
 have hw6:=ag hw5 hb6
 clear hw5 hb6
 refine hK _ _ (aj hw6) ?_
 clear hK K
 repeat (first|(refine ai (by rfl) ?_)|(refine au (by rfl) (by rfl) (fun K hK=>?_);go_big_quiet_op;refine hK _ ?_;clear hK K))
 refine aB (by rfl) (by rfl) (fun K hK=>?_)
 go_wp2_with fail
 refine(wB _ _ f7.1 (by omega)).mono ?_
 rintro e v7 ⟨rfl,hb7⟩
 have hw7:=ag hw6 hb7
 clear hw6 hb7
 refine hK _ _ (aj hw7) ?_
 clear hK K
 repeat (first|(refine ai (by rfl) ?_)|(refine au (by rfl) (by rfl) (fun K hK=>?_);go_big_quiet_op;refine hK _ ?_;clear hK K))
 refine aB (by rfl) (by rfl) (fun K hK=>?_)
 go_wp2_with fail
 refine(wB _ _ f8.1 (by omega)).mono ?_
 rintro e v8 ⟨rfl,hb8⟩
 have hw8:=ag hw7 hb8
 clear hw7 hb8
 refine hK _ _ (aj hw8) ?_
 clear hK K
 repeat (first|(refine ai (by rfl) ?_)|(refine au (by rfl) (by rfl) (fun K hK=>?_);go_big_quiet_op;refine hK _ ?_;clear hK K))
 refine aB (by rfl) (by rfl) (fun K hK=>?_)
 go_wp2_with fail
 refine(wB _ _ f9.1 (by omega)).mono ?_
 rintro e v9 ⟨rfl,iG⟩
 have vw:=ag hw8 iG
 clear hw8 iG
 refine hK _ _ (aj vw) ?_
 clear hK K
 repeat (first|(refine ai (by rfl) ?_)|(refine au (by rfl) (by rfl) (fun K hK=>?_);go_big_quiet_op;refine hK _ ?_;clear hK K))
 refine bz ?_
 go_wp2_with fail
 go_ret
 exact⟨rfl,ag hB0 vw⟩
end Go.Proofs.YtpfifochimkpfaaGreatDoor
namespace Go.WW
open Go.RowKit
def uI(l:List UInt8):List UInt8:=bM l.length 4++l
def qB(L:List ah):List (List UInt8):=L.map fun p=>uI (pM p).data.toList
def qC(L:List Entry):List (List UInt8):=L.map fun d=>uI (pI d)
def Ov(D:Db):List UInt8:=(([UInt8.ofNat D.aJ.size]++D.aJ.data.toList)++bM D.aN.toNat 8)++bM D.aF.length 4
def jX(D:Db):List UInt8:=((Ov D++(qB D.aF).flatten)++bM D.entries.length 4)++(qC D.entries).flatten
theorem Xt{l:List (List UInt8)}{m:Nat}(h:∀x∈l,x.length≤m):l.flatten.length≤l.length*m:=by
 induction l with
 |nil=>simp
 |cons a l ih=>
  have h1:=h a List.mem_cons_self
  have h2:=ih fun x hx=>h x (List.mem_cons_of_mem _ hx)
  rw[List.flatten_cons,List.length_append,List.length_cons,Nat.succ_mul];omega
theorem Xu(l:List UInt8):(uI l).length=l.length+4:=by unfold uI;rw[List.length_append,gZ];omega
theorem Ox{p:ah}(h:Ou p):(pM p).size≤300:=by
 obtain⟨f0,f1,f2,f3,f4,f5,f6,f7,f8,f9⟩:=h
 have d1:=iZ f1
 have d2:=iZ f2
 have d3:=iZ f3
 have d4:=iZ f4
 have d5:=iZ f5
 have d6:=iZ f6
 have d7:=iZ f7
 have d8:=iZ f8
 have d9:=iZ f9
 have step:∀(s l d:ByteArray) (n:Nat),s.size≤n→l.size≤10→d.size≤13→((s++l)++d).size≤n+23:=fun s l d n h1 h2 h3=>by
  rw[ByteArray.size_append,ByteArray.size_append];omega
 unfold pM
 exact Nat.le_trans (step _ _ _ _ (step _ _ _ _ (step _ _ _ _ (step _ _ _ _ (step _ _ _ _ (step _ _ _ _ (step _ _ _ _ (step _ _ _ _ (step _ _ _ _ f0 (by decide) d1) (by decide) d2) (by decide) d3) (by decide) d4) (by decide) d5) (by decide) d6) (by decide) d7) (by decide) d8) (by decide) d9) (by decide)
structure Eh(D:Db):Prop where
 re:D.aJ.size≤1000
 aN:0≤D.aN
 dJ:∀q∈D.aF,dA q=true
 dS:∀d∈D.entries,zM d
 np:D.aF.length≤64
 ne:D.entries.length≤64
theorem Xv(D:Db)(h:Eh D):(qB D.aF).flatten.length≤20000:=by
 have h1:∀x∈qB D.aF,x.length≤304:=fun x hx=>by
  simp only[qB,List.mem_map]at hx
  obtain⟨q,hq,rfl⟩:=hx
  have:=Ox (BH (h.dJ q hq))
  rw[Xu]
  have e:(pM q).data.toList.length=(pM q).size:=by simp
  omega
 have h2:=Xt h1
 have h3:(qB D.aF).length=D.aF.length:=by simp[qB]
 have:=h.np
 rw[h3]at h2
 have:D.aF.length*304≤64*304:=Nat.mul_le_mul_right _ this
 omega
theorem Xw(D:Db)(h:Eh D):(qC D.entries).flatten.length≤30000000:=by
 have h1:∀x∈qC D.entries,x.length≤416089:=fun x hx=>by
  simp only[qC,List.mem_map]at hx
  obtain⟨q,hq,rfl⟩:=hx
  have:=NJ (h.dS q hq)
  rw[Xu]
  omega
 have h2:=Xt h1
 have h3:(qC D.entries).length=D.entries.length:=by simp[qC]
 have:=h.ne
 rw[h3]at h2
 have:D.entries.length*416089≤64*416089:=Nat.mul_le_mul_right _ this
 omega
end Go.WW
namespace Go.Proofs.YtpfifochimkpfaaGreatDoor
open Go.RowKit Go.WW
theorem ake(e p:Sl)(D:Db)(w:World)(he:lM w e.a D.entries)(hp:gQ w p.a D.aF)(hok:Eh D):Calls Tryz.prog 18 #[.agg (aA e p D)] w (bG w (jX D)):=by
 have hB:Below w.heap.size w (w.alloc (.cells (aA e p D) 30)):=ay (Below.refl _ _) _
 have hx0:=World.alloc_heap_new w (.cells (aA e p D) 30)
 obtain⟨S,hS⟩:∃S:Nat,S=D.aN.toNat:=⟨_,rfl⟩
 have Xx:D.aN=(S:Int):=by have:=hok.aN;omega
 obtain⟨c0,hc0⟩:∃c,c=UInt8.ofNat D.aJ.size:=⟨_,rfl⟩
 have hc1:(D.aJ.size:Int) % 256=c0.toNat:=by rw[hc0];simp
 have hre:D.aJ.size≤1000:=hok.re
 have hnp:(D.aF.length:Int)≤64:=by have:=hok.np;omega
 have hne:(D.entries.length:Int)≤64:=by have:=hok.ne;omega
 obtain⟨L1,hL1⟩:∃L,L=[c0]++D.aJ.data.toList:=⟨_,rfl⟩
 obtain⟨L2,hL2⟩:∃L,L=L1++bM S 8:=⟨_,rfl⟩
 obtain⟨L3,hL3⟩:∃L,L=L2++bM D.aF.length 4:=⟨_,rfl⟩
 have HH:=Lib.hid (show Ov D=L3 by rw[hL3,hL2,hL1,hc0,hS];rfl)
 have hl1:L1.length=1+D.aJ.size:=by rw[hL1,List.length_append];simp
 have hl2:L2.length=9+D.aJ.size:=by rw[hL2,List.length_append,gZ,hl1];omega
 have hl3:L3.length=13+D.aJ.size:=by rw[hL3,List.length_append,gZ,hl2];omega
 have Oy:=Lib.hid hL1
 have HL2:=Lib.hid hL2
 have Oz:=Lib.hid hL3
 have OA:=Lib.hid hl1
 have Hl2:=Lib.hid hl2
 have IW:=Lib.hid hl3
 clear hL1 hL2 hL3 hl1 hl2 hl3 hS hc0
 have oH:=Lib.hid hok
 clear hok
 go_enter Tryz.func18,Tryz.ntmps18
 go_step
 apply Vu (M:=fun V=>Below w.heap.size w V∧V.heap[w.heap.size]?=some (.cells (aA e p D) 30))
 case h1=>
  go_wp2_with fail
  exact⟨rfl,⟨hB,hx0⟩⟩
 rintro W ⟨hBW,OB⟩
 have HE:=Lib.hid (he.later hBW)
 have HP:=Lib.hid (hp.later hBW)
 have HBW:=Lib.hid hBW
 clear he hp hB hx0 hBW
 obtain⟨hc,hf,hr,hl⟩:=ax OB
 have HXW:=Lib.hid OB
 clear OB
 have hR0:=dC.lit (T:=5) (Below.refl _ W) [c0] (cs:=#[.int .u8 c0.toNat]) rfl (by simp)
 iterate 3 go_step
 apply Ba (M:=fun(s:Sl) V=>dC 5 W V s L1)
 case h1=>
  go_wp2_with (at_builtin;refine NP (L:=L1) rfl _ _ _ _ rfl Tryz.underlying58 Tryz.underlying9 (i:=(Tryz.prog.info? 5).get (by kernel_rfl)) (by kernel_rfl) (by kernel_rfl) (by kernel_rfl) (by kernel_rfl) hR0 rfl rfl rfl Oy.out (by have:=OA.out;omega) ?_;intro s3 w3 dV _ _)
  exact⟨s3,rfl,⟨dV⟩⟩
 rintro s1 V1 hR1
 iterate 3 go_step
 apply Vw (M:=fun(_:Sl) (s:Sl) V=>dC 5 W V s L2)
 case h1=>
  obtain⟨hcc,bf,hrr⟩:=aQ hR1.b
  go_wp2_with fail
  refine(D7 S 8 _ (by decide)).mono ?_
  rintro e2 V2 ⟨s2,rfl,hb2,hd2⟩
  have hD2:=hd2.out
  clear hcc bf hrr
  go_wp2_with (at_builtin;refine iT (L:=L2) rfl _ _ _ rfl eP b8 (hR1.later hb2) rfl rfl rfl rfl hD2 HL2.out (by have:=Hl2.out;omega) ?_;intro s3 w3 dV)
  exact⟨s2,s3,rfl,⟨dV⟩⟩
 rintro-s2 V2 hR2
 iterate 3 go_step
 apply Vw (M:=fun(_:Sl) (s:Sl) V=>dC 5 W V s L3)
 case h1=>
  obtain⟨hcc,bf,hrr⟩:=aQ hR2.b
  go_wp2_with fail
  refine(D7 D.aF.length 4 _ (by decide)).mono ?_
  rintro e2 V3 ⟨s3,rfl,hb3,hd3⟩
  have hD3:=hd3.out
  clear hcc bf hrr
  go_wp2_with (at_builtin;refine iT (L:=L3) rfl _ _ _ rfl eP b8 (hR2.later hb3) rfl rfl rfl rfl hD3 Oz.out (by have:=IW.out;omega) ?_;intro s4 w4 zU)
  exact⟨s3,s4,rfl,⟨zU⟩⟩
 rintro-s3 V3 dV
 obtain⟨PL,wE⟩:∃PL,PL=qB D.aF:=⟨_,rfl⟩
 have Ei:=Lib.hid wE
 have zV:=Lib.hid (show PL.length=D.aF.length by rw[wE];simp[qB])
 have OC:=Lib.hid (show PL.flatten.length≤20000 by rw[wE];exact Xv D oH.out)
 clear wE
 go_wp2_with fail
 go_loopw [3,4,5] (fun bv iv _ wr=>∃(k:Nat) (sc:Sl),k≤D.aF.length∧iv=.int .i64 k∧∃M:List UInt8,Hid (M=L3++(PL.take k).flatten)∧bv=.slice sc.a M.length sc.cap∧dC 5 W wr sc M) (fun _ iv _ _=>D.aF.length-(intOf iv).toNat)
 case atStart=>exact⟨0,s3,Nat.zero_le _,rfl,L3,by simp[Hid],rfl,dV⟩
 case round=>
  obtain⟨k,sc,hk,rfl,M,HM,rfl,hR⟩:=hrel
  have lJ:=Lib.hid (show M.length≤22000 by have h1:=IW.out;have h2:=OC.out;have h3:=zN PL k;rw[HM.out,List.length_append];omega)
  obtain⟨hcc,bf,hrr⟩:=aQ hR.b
  by_cases hlt:k<D.aF.length
  ·obtain⟨b,o,ha,hrow,hnm⟩:=HP.out.get k hlt
   have hb:b<W.heap.size:=fA hrow
   have hki:(k:Int)<(D.aF.length:Int):=by omega
   obtain⟨str,hstr⟩:∃t,t=pM D.aF[k]:=⟨_,rfl⟩
   have hsl:str.size≤300:=by rw[hstr];exact Ox (BH (oH.out.dJ _ (List.getElem_mem hlt)))
   have HK:=Lib.hid (show(PL.take (k+1)).flatten=(PL.take k).flatten++(bM str.size 4++str.data.toList) by
    rw[xN (by rw[zV.out];exact hlt)]
    congr 1
    have:PL[k]'(by rw[zV.out];exact hlt)=uI (pM D.aF[k]).data.toList:=by simp[Ei.out,qB]
    rw[this,←hstr]
    unfold uI
    rw[show str.data.toList.length=str.size by simp])
   have akg:=Lib.hid hstr
   clear hstr
   go_wp2_with fail
   refine(aka _ _ (BH (oH.out.dJ _ (List.getElem_mem hlt)))).mono ?_
   rw[←akg.out]
   rintro e2 V4 ⟨rfl,hb4⟩
   have zU:=hR.later hb4
   clear hcc bf hrr hrow hnm
   go_wp2_with fail
   refine(D7 str.size 4 _ (by decide)).mono ?_
   rintro e3 V5 ⟨s5,rfl,hb5,hd5⟩
   have hD5:=hd5.out
   have wF:=zU.later hb5
   obtain⟨M1,hM1⟩:∃N,N=M++bM str.size 4:=⟨_,rfl⟩
   obtain⟨M2,hM2⟩:∃N,N=M1++str.data.toList:=⟨_,rfl⟩
   have Ej:=Lib.hid (show M1.length=M.length+4 by rw[hM1,List.length_append,gZ])
   have OD:=Lib.hid (show M2.length=M.length+4+str.size by rw[hM2,List.length_append,Ej.out];simp)
   have Em:=Lib.hid hM1
   have pg:=Lib.hid hM2
   have HSL:=Lib.hid hsl
   clear hM1 hM2 hb4 hb5 zU hd5 hsl
   go_wp2_with (first|(at_builtin;refine iT (L:=M1) rfl _ _ _ rfl eP b8 wF rfl rfl rfl rfl hD5 Em.out (by have:=Ej.out;have:=lJ.out;omega) ?_;intro s6 w6 uJ)|(at_builtin;refine NP (L:=M2) rfl _ _ _ _ rfl Tryz.underlying58 Tryz.underlying9 (i:=(Tryz.prog.info? 5).get (by kernel_rfl)) (by kernel_rfl) (by kernel_rfl) (by kernel_rfl) (by kernel_rfl) uJ rfl rfl rfl pg.out (by have:=OD.out;have:=lJ.out;have:=HSL.out;omega) ?_;intro s7 w7 uK _ _))
   go_roundw
   case rel=>
    have HE:=Lib.hid (show M2=L3++(PL.take (k+1)).flatten by rw[pg.out,Em.out,HM.out,HK.out,List.append_assoc,List.append_assoc])
    try rw[←ha]
    (repeat apply Exists.intro)
    exact⟨⟨k+1,s7,by omega,by go_num,M2,HE.out,rfl,uK⟩,rfl⟩
   case measure=>simp[intOf];omega
  have OE:=Lib.hid (show M=L3++PL.flatten by rw[HM.out,List.take_of_length_le (by rw[zV.out];omega)])
  obtain⟨N4,xW⟩:∃N,N=M++bM D.entries.length 4:=⟨_,rfl⟩
  have IX:=Lib.hid xW
  have IY:=Lib.hid (show N4.length≤22004 by have:=lJ.out;rw[xW,List.length_append,gZ];omega)
  obtain⟨EL,wG⟩:∃EL,EL=qC D.entries:=⟨_,rfl⟩
  have En:=Lib.hid wG
  have zW:=Lib.hid (show EL.length=D.entries.length by rw[wG];simp[qC])
  have OG:=Lib.hid (show EL.flatten.length≤30000000 by rw[wG];exact Xw D oH.out)
  clear xW wG
  go_wp2_with fail
  refine(D7 D.entries.length 4 _ (by decide)).mono ?_
  rintro e3 V5 ⟨s5,rfl,hb5,hd5⟩
  have hD5:=hd5.out
  have wF:=hR.later hb5
  clear hcc bf hrr
  go_wp2_with (at_builtin;refine iT (L:=N4) rfl _ _ _ rfl eP b8 wF rfl rfl rfl rfl hD5 IX.out (by have:=IY.out;omega) ?_;intro s6 w6 uJ)
  go_loopw [3,6,7] (fun bv iv _ wr=>∃(k:Nat) (sc:Sl),k≤D.entries.length∧iv=.int .i64 k∧∃M:List UInt8,Hid (M=N4++(EL.take k).flatten)∧bv=.slice sc.a M.length sc.cap∧dC 5 W wr sc M) (fun _ iv _ _=>D.entries.length-(intOf iv).toNat)
  case atStart=>exact⟨0,s6,Nat.zero_le _,rfl,N4,by simp[Hid],rfl,uJ⟩
  case round=>
   obtain⟨k2,sd,hk2,rfl,M4,zX,rfl,uK⟩:=hrel
   have BI:=Lib.hid (show M4.length≤30100000 by have h1:=IY.out;have h2:=OG.out;have h3:=zN EL k2;rw[zX.out,List.length_append];omega)
   obtain⟨hcc,bf,hrr⟩:=aQ uK.b
   by_cases hlt2:k2<D.entries.length
   ·obtain⟨b,o,rr,ha,hrow,hat⟩:=HE.out.get k2 hlt2
    have hb:b<W.heap.size:=fA hrow
    have hki:(k2:Int)<(D.entries.length:Int):=by omega
    have hat':=hat.later uK.b
    go_wp2_with fail
    refine(ajO _ _ _ hat' (oH.out.dS _ (List.getElem_mem hlt2))).mono ?_
    obtain⟨en,hen⟩:∃l,l=pI D.entries[k2]:=⟨_,rfl⟩
    rw[←hen]
    have hel:en.length≤416085:=by rw[hen];exact NJ (oH.out.dS _ (List.getElem_mem hlt2))
    have HK2:=Lib.hid (show(EL.take (k2+1)).flatten=(EL.take k2).flatten++(bM en.length 4++en) by
     rw[xN (by rw[zW.out];exact hlt2)]
     congr 1
     have:EL[k2]'(by rw[zW.out];exact hlt2)=uI (pI D.entries[k2]):=by simp[En.out,qC]
     rw[this,←hen]
     rfl)
    have HEN:=Lib.hid hel
    clear hen hel
    rintro e8 V8 ⟨s8,rfl,hb8,hd8⟩
    have Xy:=uK.later hb8
    clear hcc bf hrr hrow hat hat'
    go_wp2_with fail
    refine(D7 en.length 4 _ (by decide)).mono ?_
    rintro e9 V9 ⟨s9,rfl,iG,hd9⟩
    have LC:=hd9.out
    have hR9:=Xy.later iG
    have HG:=Lib.hid (show ∀(x:World),V9.grownBy x sd.blk→BytesAt x s8.a en from fun x hx=>hd8 x fun j hj=>by
     have h1:=hj.1
     have h2:=hj.2
     refine(hx.block j (Nat.lt_of_lt_of_le h2 iG.size) (fun e=>?_)).trans (iG.block j h2)
     have:=(uK.own.base e.symm).2
     omega)
    obtain⟨M1,hM1⟩:∃N,N=M4++bM en.length 4:=⟨_,rfl⟩
    obtain⟨M2,hM2⟩:∃N,N=M1++en:=⟨_,rfl⟩
    have Ej:=Lib.hid (show M1.length=M4.length+4 by rw[hM1,List.length_append,gZ])
    have OD:=Lib.hid (show M2.length=M4.length+4+en.length by rw[hM2,List.length_append,Ej.out])
    have Em:=Lib.hid hM1
    have pg:=Lib.hid hM2
    clear hM1 hM2 hb8 iG Xy hd9 hd8
    go_wp2_with (first|(at_builtin;refine ajE (L:=M1) rfl _ _ _ rfl eP b8 hR9 rfl rfl rfl rfl LC Em.out (by have:=Ej.out;have:=BI.out;omega) ?_;intro sx wx hRx hgx;have hDx:=HG.out wx hgx)|(at_builtin;refine iT (L:=M2) rfl _ _ _ rfl eP b8 hRx rfl rfl rfl rfl hDx pg.out (by have:=OD.out;have:=BI.out;have:=HEN.out;omega) ?_;intro sy wy hRy))
    go_roundw
    case rel=>
     have HF:=Lib.hid (show M2=N4++(EL.take (k2+1)).flatten by rw[pg.out,Em.out,zX.out,HK2.out,List.append_assoc,List.append_assoc])
     try rw[←ha]
     (repeat apply Exists.intro)
     exact⟨⟨k2+1,sy,by omega,by go_num,M2,HF.out,rfl,hRy⟩,rfl⟩
    case measure=>simp[intOf];omega
   have HFin:=Lib.hid (show M4=jX D by rw[zX.out,List.take_of_length_le (by rw[zW.out];omega),IX.out,OE.out,Ei.out,En.out,←HH.out];rfl)
   go_wp2_with fail
   go_ret
   rw[←HFin.out]
   exact(uK.D6 (by have:=BI.out;unfold lim;omega)).from HBW.out
end Go.Proofs.YtpfifochimkpfaaGreatDoor
