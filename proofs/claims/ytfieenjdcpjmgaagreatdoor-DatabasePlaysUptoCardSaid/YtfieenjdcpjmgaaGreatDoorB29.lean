/- A part of the proof. -/
import Derived.Test.YtfieenjdcpjmgaaGreatDoorB28
import Derived.Test.YtfieenjdcpjmgaaGreatDoorB27
import Derived.Test.YtfieenjdcpjmgaaGreatDoorB07
import Derived.Lib.ItoaNum
import Derived.Test.YtfieenjdcpjmgaaGreatDoorB04
import Derived.Test.YtfieenjdcpjmgaaGreatDoorB09
import Derived.Test.YtfieenjdcpjmgaaGreatDoorB22
import Derived.Test.YtfieenjdcpjmgaaGreatDoorB10
set_option maxRecDepth 100000
set_option maxHeartbeats 16000000
namespace Go.Proofs.YtfieenjdcpjmgaaGreatDoor
open Go.RowKit Go.WW
theorem amL(v:Int)(w:World)(h0:0≤v):Calls Tryz.prog 90 #[.int .i64 v] w (bI w (uB v.toNat)):=by
 have:=amH v.toNat w
 rwa[Int.toNat_of_nonneg h0]at this
theorem amM(r:aN)(d:Entry)(w:World)(he:bK w r d)(hf:zB d):Calls Tryz.prog 52 #[.agg (ae r d)] w (bI w (pJ d)):=by
 have hB0:Below w.heap.size w (w.alloc (.cells (ae r d) 47)):=aj (Below.refl _ _) _
 have nR:=he.later hB0
 have hT:=OA hf
 have HF:=Lib.hid (Nat.le_trans (OB hf) (by decide:416080≤1000000))
 have HK:=Lib.hid hf.keys.1
 have HH:=Lib.hid hf.history.1
 have hkn:=hf.keys.2
 have hhn:=hf.history.2
 have BB:(dR (d.keys.map ji)).length≤26000:=by
  have h1:=map_le (f:=ji) (m:=1605) (n:=16) (l:=d.keys) (fun k hk=>Oy (hf.keys.1 k hk)) hf.keys.2
  have h2:=uC (d.keys.map ji)
  omega
 have BC:(dR (d.history.map gy)).length≤26000:=by
  have h1:=map_le (f:=gy) (m:=21) (n:=16) (l:=d.history) (fun b hb=>by have:=Bq b;have:=hf.history.1 b hb;omega) hf.history.2
  have h2:=uC (d.history.map gy)
  omega
 have HT:=Lib.hid (show pJ d=dR (dX 0 (oK d)) from rfl)
 have HB4:=Lib.hid BB
 have amN:=Lib.hid BC
 have HBT:=Lib.hid hT
 have HFF:=Lib.hid hf
 rw[HT.out]
 obtain⟨aqW,OU⟩:∃x,x=dR (dX 0 (oK d)):=⟨_,rfl⟩
 have HG:=Lib.hid OU
 rw[←OU]
 clear BB BC hT hf OU
 go_enter Tryz.func52,Tryz.ntmps52
 go_wp2_with fail
 go_loopw [3,5] (fun bv iv wr=>∃(n:Nat) (so:Sl) (L:List (List UInt8)),n≤d.keys.length∧iv=.int .i64 n∧bv=.slice so.a L.length so.cap∧iC 61 (w.alloc (.cells (ae r d) 47)) wr so L∧Hid (L=(d.keys.take n).map ji)) (fun _ i _=>d.keys.length-(intOf i).toNat)
 case atStart=>exact⟨0,⟨none,0⟩,[],Nat.zero_le _,rfl,rfl,iC.none _ (Below.refl _ _),rfl⟩
 case round=>
  obtain⟨n,so,L,hn,rfl,rfl,hH,HL⟩:=hrel
  obtain⟨hcc,aT,hrr⟩:=bg hH.b
  have hwl:w.heap.size<wr.heap.size:=by have:=hH.b.size;simp at this;omega
  by_cases hlt:n<d.keys.length
  ·obtain⟨b,o,t,ha,hrow,hp⟩:=(nR.keys.later hH.b).get n hlt
   have hbb:b<wr.heap.size:=gm hrow
   obtain⟨L',hL'⟩:∃L',L'=(d.keys.take (n+1)).map ji:=⟨_,rfl⟩
   obtain⟨x,hx⟩:∃x,x=ji d.keys[n]:=⟨_,rfl⟩
   have HA:=Lib.hid (show L'=L++[x] by rw[hL',hx,vT _ hlt HL.out])
   have hLn:L'.length≤1000000:=by rw[hL',List.length_map,List.length_take];omega
   have kE:=Lib.hid hL'
   have HX:=Lib.hid hx
   clear hL' hx
   go_wp2_with fail
   refine(amK t d.keys[n] _ hp (HK.out _ (List.getElem_mem hlt))).mono ?_
   rw[←HX.out]
   rintro e w2 ⟨s2,rfl,hb2,hd2⟩
   clear hcc aT hrr
   go_wp2_with (at_builtin;refine sF (L:=L') rfl _ _ _ rfl qh hH hb2 hd2 rfl rfl rfl rfl HA.out hLn ?_;intro s3 w3 hH3)
   go_roundw
   case rel=>exact⟨n+1,s3,L',by omega,by go_num,rfl,hH3,kE.out⟩
   case measure=>simp[intOf];omega
  ·have HE:=Lib.hid (show L=d.keys.map ji by rw[HL.out,vU _ hlt])
   have HLn:=Lib.hid (show(L.length:Int)=d.keys.length by rw[HE.out,List.length_map])
   have BA:L.length≤16:=by have:=HLn.out;omega
   have hh1:=(hH.hist (by unfold lim;omega)).out
   have hb1:=hH.b
   have xQ:=Lib.hid (show dm (d.keys.map ji)=dm L by rw[HE.out])
   have HC4:=Lib.hid (OM L)
   have BB:=HB4.out
   rw[←HE.out]at BB
   have HQ4:=Lib.hid BB
   clear BB
   clear hH HL
   go_wp2_with fail
   clear hcc aT hrr
   go_loopw [4,6] (fun bv iv wx=>∃(n:Nat) (so:Sl) (L:List (List UInt8)),n≤d.history.length∧iv=.int .i64 n∧bv=.slice so.a L.length so.cap∧iC 61 wr wx so L∧Hid (L=(d.history.take n).map gy)) (fun _ i _=>d.history.length-(intOf i).toNat)
   case atStart=>exact⟨0,⟨none,0⟩,[],Nat.zero_le _,rfl,rfl,iC.none _ (Below.refl _ _),rfl⟩
   case round=>
    obtain⟨n,so2,L2,hn,rfl,rfl,hH,HL⟩:=hrel
    have hb2:=ag hb1 hH.b
    obtain⟨hcc,aT,hrr⟩:=bg hb2
    have aqY:=Nat.lt_of_lt_of_le hwl hH.b.size
    by_cases hlt:n<d.history.length
    ·obtain⟨b,o,t,ha,hck,hp⟩:=(nR.history.later hb2).get n hlt
     have hbb:=World.block_lt_of_cell? _ _ hck
     obtain⟨L',hL'⟩:∃L',L'=(d.history.take (n+1)).map gy:=⟨_,rfl⟩
     obtain⟨x,hx⟩:∃x,x=gy d.history[n]:=⟨_,rfl⟩
     have HA:=Lib.hid (show L'=L2++[x] by rw[hL',hx,vT _ hlt HL.out])
     have hLn:L'.length≤1000000:=by rw[hL',List.length_map,List.length_take];omega
     have kE:=Lib.hid hL'
     have HX:=Lib.hid hx
     have h16:=Lib.hid (HH.out _ (List.getElem_mem hlt))
     clear hL' hx
     go_wp2_with fail
     refine(YI _ _ d.history[n] _ hp (by rw[h16.out];decide)).mono ?_
     rw[←HX.out]
     rintro e w2 ⟨s2,rfl,hbc,hd2⟩
     clear hcc aT hrr
     go_wp2_with (at_builtin;refine sF (L:=L') rfl _ _ _ rfl qh hH hbc hd2 rfl rfl rfl rfl HA.out hLn ?_;intro s3 w3 hH3)
     go_roundw
     case rel=>exact⟨n+1,s3,L',by omega,by go_num,rfl,hH3,kE.out⟩
     case measure=>simp[intOf];omega
    ·have HE2:=Lib.hid (show L2=d.history.map gy by rw[HL.out,vU _ hlt])
     have amS:=Lib.hid (show(L2.length:Int)=d.history.length by rw[HE2.out,List.length_map])
     have aqZ:L2.length≤16:=by have:=amS.out;omega
     have hh2:=(hH.hist (by unfold lim;omega)).out
     have amT:=hh1.later hH.b
     have IY:=nR.later hb2
     have OT:=ag hB0 hb2
     have BD:=Lib.hid (show dm (d.history.map gy)=dm L2 by rw[HE2.out])
     have amU:=Lib.hid (OM L2)
     have BC:=amN.out
     rw[←HE2.out]at BC
     have amV:=Lib.hid BC
     have hT:=HBT.out
     have hf:=HFF.out
     clear BC
     clear hH HL hh1 hb1 nR
     obtain⟨f1,f2,f3,f4,-,f6,f7,f8,f9,f10,f11,f12,f13,f14,f15,-⟩:=hf
     have c5:=Lib.hid (OQ d.aO)
     simp only[oK,List.mem_cons,List.not_mem_nil,or_false,forall_eq_or_imp,forall_eq]at hT
     obtain⟨g0,g1,g2,g3,g4,g5,g6,g7,g8,g9,g10,g11,g12,g13,g14,g15⟩:=hT
     simp only[xQ.out,BD.out]at g4 g15
     have hfl:=HF.out
     simp only[oK,dX,xQ.out,BD.out]at hfl
     have EC:=Lib.hid hfl
     have G0:=Lib.hid g0;have G1:=Lib.hid g1;have G2:=Lib.hid g2;have G3:=Lib.hid g3;have G4:=Lib.hid g4;have G5:=Lib.hid g5;have G6:=Lib.hid g6;have G7:=Lib.hid g7
     have G8:=Lib.hid g8;have G9:=Lib.hid g9;have G10:=Lib.hid g10;have G11:=Lib.hid g11;have G12:=Lib.hid g12;have G13:=Lib.hid g13;have G14:=Lib.hid g14;have G15:=Lib.hid g15
     clear hfl g0 g1 g2 g3 g4 g5 g6 g7 g8 g9 g10 g11 g12 g13 g14 g15
     go_wp2_with fail
     refine pW (Below.refl _ _) (by kernel_rfl) (by kernel_rfl) ?_
     intro v0 hv0
     have hP0:Ps _ v0 []:=⟨hv0,by simp⟩
     repeat (first|(refine ax (by rfl) ?_)|(refine aI (by rfl) (by rfl) (fun K hK=>?_);go_big_quiet_op;refine hK _ ?_;clear hK K))
     refine aK (by rfl) (by rfl) (fun K hK=>?_)
     go_wp2_with fail
     refine(YN _ _ _ (IY.name.later hP0.b) f1).mono ?_
     rintro e v1 ⟨s1,rfl,hb1,hd1⟩
     have hP1:=hP0.mid hb1
     clear hP0 hb1
     refine hK _ _ (aA hP1.b) ?_
     clear hK K
     repeat (first|(refine ax (by rfl) ?_)|(refine aI (by rfl) (by rfl) (fun K hK=>?_);go_big_quiet_op;refine hK _ ?_;clear hK K))
     refine aK (by rfl) (by rfl) (fun K hK=>?_)
     go_wp2_with fail
     refine(jk 0 0 _ _ _ _ rfl (by decide) hd1.out (Nat.le_trans G0.out (by decide))).mono ?_
     rintro e v2 ⟨s2,rfl,hb2,hd2⟩
     have hP2:=hP1.add hb2 hd2.out
     clear hP1 hb2 hd1 hd2
     refine hK _ _ (aA hP2.b) ?_
     clear hK K
     repeat (first|(refine ax (by rfl) ?_)|(refine aI (by rfl) (by rfl) (fun K hK=>?_);go_big_quiet_op;refine hK _ ?_;clear hK K))
     refine aK (by rfl) (by rfl) (fun K hK=>?_)
     go_wp2_with fail
     refine(OO _ _ _ _ (IY.aliases.later hP2.b) f2).mono ?_
     rintro e v3 ⟨s3,rfl,hb3,hd3⟩
     have hP3:=hP2.mid hb3
     clear hP2 hb3
     refine hK _ _ (aA hP3.b) ?_
     clear hK K
     repeat (first|(refine ax (by rfl) ?_)|(refine aI (by rfl) (by rfl) (fun K hK=>?_);go_big_quiet_op;refine hK _ ?_;clear hK K))
     refine aK (by rfl) (by rfl) (fun K hK=>?_)
     go_wp2_with fail
     refine(jk 1 1 _ _ _ _ rfl (by decide) hd3.out (Nat.le_trans G1.out (by decide))).mono ?_
     rintro e v4 ⟨s4,rfl,hb4,hd4⟩
     have kF:=hP3.add hb4 hd4.out
     clear hP3 hb4 hd3 hd4
     refine hK _ _ (aA kF.b) ?_
     clear hK K
     repeat (first|(refine ax (by rfl) ?_)|(refine aI (by rfl) (by rfl) (fun K hK=>?_);go_big_quiet_op;refine hK _ ?_;clear hK K))
     refine aK (by rfl) (by rfl) (fun K hK=>?_)
     go_wp2_with fail
     refine(amL _ _ f3.1).mono ?_
     rintro e v5 ⟨s5,rfl,hb5,hd5⟩
     have jS:=kF.mid hb5
     clear kF hb5
     refine hK _ _ (aA jS.b) ?_
     clear hK K
     repeat (first|(refine ax (by rfl) ?_)|(refine aI (by rfl) (by rfl) (fun K hK=>?_);go_big_quiet_op;refine hK _ ?_;clear hK K))
     refine aK (by rfl) (by rfl) (fun K hK=>?_)
     go_wp2_with fail
     refine(jk 2 2 _ _ _ _ rfl (by decide) hd5.out (Nat.le_trans G2.out (by decide))).mono ?_
     rintro e v6 ⟨s6,rfl,hb6,hd6⟩
     have oL:=jS.add hb6 hd6.out
     clear jS hb6 hd5 hd6
     refine hK _ _ (aA oL.b) ?_
     clear hK K
     repeat (first|(refine ax (by rfl) ?_)|(refine aI (by rfl) (by rfl) (fun K hK=>?_);go_big_quiet_op;refine hK _ ?_;clear hK K))
     refine aK (by rfl) (by rfl) (fun K hK=>?_)
     go_wp2_with fail
     refine(IW _ _ f4.1 (by omega)).mono ?_
     rintro e v7 ⟨s7,rfl,hb7,hd7⟩
     have sG:=oL.mid hb7
     clear oL hb7
     refine hK _ _ (aA sG.b) ?_
     clear hK K
     repeat (first|(refine ax (by rfl) ?_)|(refine aI (by rfl) (by rfl) (fun K hK=>?_);go_big_quiet_op;refine hK _ ?_;clear hK K))
     refine aK (by rfl) (by rfl) (fun K hK=>?_)
     go_wp2_with fail
     refine(jk 3 3 _ _ _ _ rfl (by decide) hd7.out (Nat.le_trans G3.out (by decide))).mono ?_
     rintro e v8 ⟨s8,rfl,hb8,hd8⟩
     have pM:=sG.add hb8 hd8.out
     clear sG hb8 hd7 hd8
     refine hK _ _ (aA pM.b) ?_
     clear hK K
     repeat (first|(refine ax (by rfl) ?_)|(refine aI (by rfl) (by rfl) (fun K hK=>?_);go_big_quiet_op;refine hK _ ?_;clear hK K))
     refine aK (by rfl) (by rfl) (fun K hK=>?_)
     go_wp2_with fail
     refine(uF _ _ L _ (amT.later pM.b) (by have h9:=oJ 48 L.flatten;have:(dR L).length=(tlv 48 L.flatten).length:=rfl;have:=HQ4.out;omega)).mono ?_
     rintro e v9 ⟨s9,rfl,dW,hd9⟩
     have xR:=pM.mid dW
     clear pM dW
     refine hK _ _ (aA xR.b) ?_
     clear hK K
     repeat (first|(refine ax (by rfl) ?_)|(refine aI (by rfl) (by rfl) (fun K hK=>?_);go_big_quiet_op;refine hK _ ?_;clear hK K))
     refine aK (by rfl) (by rfl) (fun K hK=>?_)
     go_wp2_with fail
     refine(vS _ s9 _ (dm L) _ hd9 HC4.out).mono ?_
     rintro e _ ⟨s10,rfl,rfl,hd10⟩
     clear hd9
     refine hK _ _ (aA xR.b) ?_
     clear hK K
     repeat (first|(refine ax (by rfl) ?_)|(refine aI (by rfl) (by rfl) (fun K hK=>?_);go_big_quiet_op;refine hK _ ?_;clear hK K))
     refine aK (by rfl) (by rfl) (fun K hK=>?_)
     go_wp2_with fail
     refine(jk 4 4 _ _ _ _ rfl (by decide) hd10.out (Nat.le_trans G4.out (by decide))).mono ?_
     rintro e v11 ⟨s11,rfl,xO,hd11⟩
     have sH:=xR.add xO hd11.out
     clear xR xO hd10 hd11
     refine hK _ _ (aA sH.b) ?_
     clear hK K
     repeat (first|(refine ax (by rfl) ?_)|(refine aI (by rfl) (by rfl) (fun K hK=>?_);go_big_quiet_op;refine hK _ ?_;clear hK K))
     refine aK (by rfl) (by rfl) (fun K hK=>?_)
     go_wp2_with fail
     refine(IQ _ _ (Nat.le_trans f6 (by decide))).mono ?_
     rintro e v12 ⟨s12,rfl,gu,xP⟩
     have nP:=sH.mid gu
     clear sH gu
     refine hK _ _ (aA nP.b) ?_
     clear hK K
     repeat (first|(refine ax (by rfl) ?_)|(refine aI (by rfl) (by rfl) (fun K hK=>?_);go_big_quiet_op;refine hK _ ?_;clear hK K))
     refine aK (by rfl) (by rfl) (fun K hK=>?_)
     go_wp2_with fail
     refine(vS _ s12 _ (jR d.aO) _ xP c5.out).mono ?_
     rintro e _ ⟨s13,rfl,rfl,ED⟩
     clear xP
     refine hK _ _ (aA nP.b) ?_
     clear hK K
     repeat (first|(refine ax (by rfl) ?_)|(refine aI (by rfl) (by rfl) (fun K hK=>?_);go_big_quiet_op;refine hK _ ?_;clear hK K))
     refine aK (by rfl) (by rfl) (fun K hK=>?_)
     go_wp2_with fail
     refine(jk 5 5 _ _ _ _ rfl (by decide) ED.out (Nat.le_trans G5.out (by decide))).mono ?_
     rintro e v14 ⟨s14,rfl,oG,EF⟩
     have xU:=nP.add oG EF.out
     clear nP oG ED EF
     refine hK _ _ (aA xU.b) ?_
     clear hK K
     repeat (first|(refine ax (by rfl) ?_)|(refine aI (by rfl) (by rfl) (fun K hK=>?_);go_big_quiet_op;refine hK _ ?_;clear hK K))
     refine aK (by rfl) (by rfl) (fun K hK=>?_)
     go_wp2_with fail
     refine(IX _ _ f7.1).mono ?_
     rintro e v15 ⟨s15,rfl,vV,EG⟩
     have xW:=xU.mid vV
     clear xU vV
     refine hK _ _ (aA xW.b) ?_
     clear hK K
     repeat (first|(refine ax (by rfl) ?_)|(refine aI (by rfl) (by rfl) (fun K hK=>?_);go_big_quiet_op;refine hK _ ?_;clear hK K))
     refine aK (by rfl) (by rfl) (fun K hK=>?_)
     go_wp2_with fail
     refine(jk 6 6 _ _ _ _ rfl (by decide) EG.out (Nat.le_trans G6.out (by decide))).mono ?_
     rintro e v16 ⟨s16,rfl,hb16,EH⟩
     have uG:=xW.add hb16 EH.out
     clear xW hb16 EG EH
     refine hK _ _ (aA uG.b) ?_
     clear hK K
     repeat (first|(refine ax (by rfl) ?_)|(refine aI (by rfl) (by rfl) (fun K hK=>?_);go_big_quiet_op;refine hK _ ?_;clear hK K))
     refine aK (by rfl) (by rfl) (fun K hK=>?_)
     go_wp2_with fail
     refine(IX _ _ f8.1).mono ?_
     rintro e v17 ⟨s17,rfl,BF,YQ⟩
     have OV:=uG.mid BF
     clear uG BF
     refine hK _ _ (aA OV.b) ?_
     clear hK K
     repeat (first|(refine ax (by rfl) ?_)|(refine aI (by rfl) (by rfl) (fun K hK=>?_);go_big_quiet_op;refine hK _ ?_;clear hK K))
     refine aK (by rfl) (by rfl) (fun K hK=>?_)
     go_wp2_with fail
     refine(jk 7 7 _ _ _ _ rfl (by decide) YQ.out (Nat.le_trans G7.out (by decide))).mono ?_
     rintro e v18 ⟨s18,rfl,BG,YR⟩
     have OW:=OV.add BG YR.out
     clear OV BG YQ YR
     refine hK _ _ (aA OW.b) ?_
     clear hK K
     repeat (first|(refine ax (by rfl) ?_)|(refine aI (by rfl) (by rfl) (fun K hK=>?_);go_big_quiet_op;refine hK _ ?_;clear hK K))
     refine aK (by rfl) (by rfl) (fun K hK=>?_)
     go_wp2_with fail
     refine(IW _ _ f9.1 (by omega)).mono ?_
     rintro e v19 ⟨s19,rfl,YS,YT⟩
     have OX:=OW.mid YS
     clear OW YS
     refine hK _ _ (aA OX.b) ?_
     clear hK K
     repeat (first|(refine ax (by rfl) ?_)|(refine aI (by rfl) (by rfl) (fun K hK=>?_);go_big_quiet_op;refine hK _ ?_;clear hK K))
     refine aK (by rfl) (by rfl) (fun K hK=>?_)
     go_wp2_with fail
     refine(jk 8 8 _ _ _ _ rfl (by decide) YT.out (Nat.le_trans G8.out (by decide))).mono ?_
     rintro e v20 ⟨s20,rfl,YU,YV⟩
     have OY:=OX.add YU YV.out
     clear OX YU YT YV
     refine hK _ _ (aA OY.b) ?_
     clear hK K
     repeat (first|(refine ax (by rfl) ?_)|(refine aI (by rfl) (by rfl) (fun K hK=>?_);go_big_quiet_op;refine hK _ ?_;clear hK K))
     refine aK (by rfl) (by rfl) (fun K hK=>?_)
     go_wp2_with fail
     refine(IW _ _ f10.1 (by omega)).mono ?_
     rintro e v21 ⟨s21,rfl,YW,YX⟩
     have OZ:=OY.mid YW
     clear OY YW
     refine hK _ _ (aA OZ.b) ?_
     clear hK K
     repeat (first|(refine ax (by rfl) ?_)|(refine aI (by rfl) (by rfl) (fun K hK=>?_);go_big_quiet_op;refine hK _ ?_;clear hK K))
     refine aK (by rfl) (by rfl) (fun K hK=>?_)
     go_wp2_with fail
     refine(jk 9 9 _ _ _ _ rfl (by decide) YX.out (Nat.le_trans G9.out (by decide))).mono ?_
     rintro e v22 ⟨s22,rfl,YY,YZ⟩
     have O0:=OZ.add YY YZ.out
     clear OZ YY YX YZ
     refine hK _ _ (aA O0.b) ?_
     clear hK K
     repeat (first|(refine ax (by rfl) ?_)|(refine aI (by rfl) (by rfl) (fun K hK=>?_);go_big_quiet_op;refine hK _ ?_;clear hK K))
     refine aK (by rfl) (by rfl) (fun K hK=>?_)
     go_wp2_with fail
     refine(IW _ _ f11.1 (by omega)).mono ?_
     rintro e v23 ⟨s23,rfl,zq,Y0⟩
     have O1:=O0.mid zq
     clear O0 zq
     refine hK _ _ (aA O1.b) ?_
     clear hK K
     repeat (first|(refine ax (by rfl) ?_)|(refine aI (by rfl) (by rfl) (fun K hK=>?_);go_big_quiet_op;refine hK _ ?_;clear hK K))
     refine aK (by rfl) (by rfl) (fun K hK=>?_)
     go_wp2_with fail
     refine(jk 10 10 _ _ _ _ rfl (by decide) Y0.out (Nat.le_trans G10.out (by decide))).mono ?_
     rintro e v24 ⟨s24,rfl,Y1,hd24⟩
     have O3:=O1.add Y1 hd24.out
     clear O1 Y1 Y0 hd24
     refine hK _ _ (aA O3.b) ?_
     clear hK K
     repeat (first|(refine ax (by rfl) ?_)|(refine aI (by rfl) (by rfl) (fun K hK=>?_);go_big_quiet_op;refine hK _ ?_;clear hK K))
     refine aK (by rfl) (by rfl) (fun K hK=>?_)
     go_wp2_with fail
     refine(IX _ _ f12.1).mono ?_
     rintro e v25 ⟨s25,rfl,Y2,hd25⟩
     have O4:=O3.mid Y2
     clear O3 Y2
     refine hK _ _ (aA O4.b) ?_
     clear hK K
     repeat (first|(refine ax (by rfl) ?_)|(refine aI (by rfl) (by rfl) (fun K hK=>?_);go_big_quiet_op;refine hK _ ?_;clear hK K))
     refine aK (by rfl) (by rfl) (fun K hK=>?_)
     go_wp2_with fail
     refine(jk 11 11 _ _ _ _ rfl (by decide) hd25.out (Nat.le_trans G11.out (by decide))).mono ?_
     rintro e v26 ⟨s26,rfl,Y3,Y4⟩
     have O5:=O4.add Y3 Y4.out
     clear O4 Y3 hd25 Y4
     refine hK _ _ (aA O5.b) ?_
     clear hK K
     repeat (first|(refine ax (by rfl) ?_)|(refine aI (by rfl) (by rfl) (fun K hK=>?_);go_big_quiet_op;refine hK _ ?_;clear hK K))
     refine aK (by rfl) (by rfl) (fun K hK=>?_)
     go_wp2_with fail
     refine(IX _ _ f13.1).mono ?_
     rintro e v27 ⟨s27,rfl,Y5,hd27⟩
     have O6:=O5.mid Y5
     clear O5 Y5
     refine hK _ _ (aA O6.b) ?_
     clear hK K
     repeat (first|(refine ax (by rfl) ?_)|(refine aI (by rfl) (by rfl) (fun K hK=>?_);go_big_quiet_op;refine hK _ ?_;clear hK K))
     refine aK (by rfl) (by rfl) (fun K hK=>?_)
     go_wp2_with fail
     refine(jk 12 12 _ _ _ _ rfl (by decide) hd27.out (Nat.le_trans G12.out (by decide))).mono ?_
     rintro e v28 ⟨s28,rfl,Y6,hd28⟩
     have IZ:=O6.add Y6 hd28.out
     clear O6 Y6 hd27 hd28
     refine hK _ _ (aA IZ.b) ?_
     clear hK K
     repeat (first|(refine ax (by rfl) ?_)|(refine aI (by rfl) (by rfl) (fun K hK=>?_);go_big_quiet_op;refine hK _ ?_;clear hK K))
     refine aK (by rfl) (by rfl) (fun K hK=>?_)
     go_wp2_with fail
     refine(OO _ _ _ _ (IY.targets.later IZ.b) f14).mono ?_
     rintro e v29 ⟨s29,rfl,Y7,hd29⟩
     have O7:=IZ.mid Y7
     clear IZ Y7
     refine hK _ _ (aA O7.b) ?_
     clear hK K
     repeat (first|(refine ax (by rfl) ?_)|(refine aI (by rfl) (by rfl) (fun K hK=>?_);go_big_quiet_op;refine hK _ ?_;clear hK K))
     refine aK (by rfl) (by rfl) (fun K hK=>?_)
     go_wp2_with fail
     refine(jk 13 13 _ _ _ _ rfl (by decide) hd29.out (Nat.le_trans G13.out (by decide))).mono ?_
     rintro e v30 ⟨s30,rfl,Y8,Y9⟩
     have I4:=O7.add Y8 Y9.out
     clear O7 Y8 hd29 Y9
     refine hK _ _ (aA I4.b) ?_
     clear hK K
     repeat (first|(refine ax (by rfl) ?_)|(refine aI (by rfl) (by rfl) (fun K hK=>?_);go_big_quiet_op;refine hK _ ?_;clear hK K))
     refine aK (by rfl) (by rfl) (fun K hK=>?_)
     go_wp2_with fail
     refine(OO _ _ _ _ (IY.bD.later I4.b) f15).mono ?_
     rintro e v31 ⟨s31,rfl,Za,hd31⟩
     have O8:=I4.mid Za
     clear I4 Za
     refine hK _ _ (aA O8.b) ?_
     clear hK K
     repeat (first|(refine ax (by rfl) ?_)|(refine aI (by rfl) (by rfl) (fun K hK=>?_);go_big_quiet_op;refine hK _ ?_;clear hK K))
     refine aK (by rfl) (by rfl) (fun K hK=>?_)
     go_wp2_with fail
     refine(jk 14 14 _ _ _ _ rfl (by decide) hd31.out (Nat.le_trans G14.out (by decide))).mono ?_
     rintro e v32 ⟨s32,rfl,Zb,hd32⟩
     have I5:=O8.add Zb hd32.out
     clear O8 Zb hd31 hd32
     refine hK _ _ (aA I5.b) ?_
     clear hK K
     repeat (first|(refine ax (by rfl) ?_)|(refine aI (by rfl) (by rfl) (fun K hK=>?_);go_big_quiet_op;refine hK _ ?_;clear hK K))
     refine aK (by rfl) (by rfl) (fun K hK=>?_)
     go_wp2_with fail
     refine(uF _ _ L2 _ (hh2.later I5.b) (by have h9:=oJ 48 L2.flatten;have:(dR L2).length=(tlv 48 L2.flatten).length:=rfl;have:=amV.out;omega)).mono ?_
     rintro e v33 ⟨s33,rfl,Zc,Zd⟩
     have I7:=I5.mid Zc
     clear I5 Zc
     refine hK _ _ (aA I7.b) ?_
     clear hK K
     repeat (first|(refine ax (by rfl) ?_)|(refine aI (by rfl) (by rfl) (fun K hK=>?_);go_big_quiet_op;refine hK _ ?_;clear hK K))
     refine aK (by rfl) (by rfl) (fun K hK=>?_)
     go_wp2_with fail
     refine(vS _ s33 _ (dm L2) _ Zd amU.out).mono ?_
     rintro e _ ⟨s34,rfl,rfl,hd34⟩
     clear Zd
     refine hK _ _ (aA I7.b) ?_
     clear hK K
     repeat (first|(refine ax (by rfl) ?_)|(refine aI (by rfl) (by rfl) (fun K hK=>?_);go_big_quiet_op;refine hK _ ?_;clear hK K))
     refine aK (by rfl) (by rfl) (fun K hK=>?_)
     go_wp2_with fail
     refine(jk 15 15 _ _ _ _ rfl (by decide) hd34.out (Nat.le_trans G15.out (by decide))).mono ?_
     rintro e v35 ⟨s35,rfl,Ze,Zf⟩
     have BH:=I7.add Ze Zf.out
     clear I7 Ze hd34 Zf
     refine hK _ _ (aA BH.b) ?_
     clear hK K
     repeat (first|(refine ax (by rfl) ?_)|(refine aI (by rfl) (by rfl) (fun K hK=>?_);go_big_quiet_op;refine hK _ ?_;clear hK K))
     refine aK (by rfl) (by rfl) (fun K hK=>?_)
     go_wp2_with fail
     refine hK _ _ (aA (aj BH.b _)) ?_
     clear hK K
     repeat (first|(refine ax (by rfl) ?_)|(refine aI (by rfl) (by rfl) (fun K hK=>?_);go_big_quiet_op;refine hK _ ?_;clear hK K))
     refine aK (by rfl) (by rfl) (fun K hK=>?_)
     go_wp2_with fail
     refine(uF _ _ [bT 0 (fG d.name),bT 1 (dm (d.aliases.map fG)),bT 2 (uB d.attrs.toNat),bT 3 (fZ d.dS.toNat),bT 4 (dm L),bT 5 (jR d.aO),bT 6 (jh d.iE.toNat),bT 7 (jh d.iF.toNat),bT 8 (fZ d.ig.toNat),bT 9 (fZ d.ik.toNat),bT 10 (fZ d.fails.toNat),bT 11 (jh d.fD.toNat),bT 12 (jh d.gQ.toNat),bT 13 (dm (d.targets.map fG)),bT 14 (dm (d.bD.map fG)),bT 15 (dm L2)] _ (fK.lit _ rfl rfl BH.at_ (by simp[lim])) EC.out).mono ?_
     rintro e vz ⟨sz,rfl,hbz,hdz⟩
     have HB:=Lib.hid (bI.from (W:=w) ⟨sz,rfl,hbz,hdz⟩ (ag OT (aj BH.b _)))
     have sJ:=ag (aj BH.b _) hbz
     clear BH hdz hbz
     refine hK _ _ (aA sJ) ?_
     clear hK K
     repeat (first|(refine ax (by rfl) ?_)|(refine aI (by rfl) (by rfl) (fun K hK=>?_);go_big_quiet_op;refine hK _ ?_;clear hK K))
     refine bV ?_
     go_wp2_with fail
     go_ret
     rw[HG.out]
     simp only[oK,dX,xQ.out,BD.out]
     exact HB.out
end Go.Proofs.YtfieenjdcpjmgaaGreatDoor
namespace Go.WW
open Go.RowKit
def eU(n:Nat):ByteArray:=⟨(Lib.decDigits n).toArray⟩
theorem EI{n:Nat}(h:n<10):eU n=⟨#[UInt8.ofNat (48+n)]⟩:=by unfold eU;rw[Lib.decDigits_one h]
theorem Zg{n:Nat}(h:¬n<10):eU n=eU (n / 10)++eU (n % 10):=by
 rw[EI (show n % 10<10 by omega)]
 unfold eU
 rw[Lib.decDigits,dif_neg h]
 exact(ByteArray.mk_append_mk (Lib.decDigits (n / 10)) [UInt8.ofNat (48+n % 10)]).symm
theorem O9:∀(k n:Nat),0<k→n<10 ^ k→(eU n).size≤k
 |0,_,h,_=>absurd h (Nat.lt_irrefl 0)
 |1,n,_,h=>by rw[EI (by simpa using h)];exact Nat.le_refl _
 |k+2,n,_,h=>by
  by_cases h1:n<10
  ·rw[EI h1];exact Nat.le_add_left 1 (k+1)
  ·rw[Zg h1,ByteArray.size_append]
   have h2:=O9 (k+1) (n / 10) (by omega) (by rw[Nat.div_lt_iff_lt_mul (by decide),←Nat.pow_succ];exact h)
   have h3:(eU (n % 10)).size=1:=by rw[EI (by omega)];rfl
   omega
theorem Zh{n:Nat}(h:n<4611686018427387904):(eU n).size≤19:=O9 19 n (by decide) (Nat.lt_trans h (by decide))
theorem am3(m:Nat):(m:Int).tdiv 10=((m / 10:Nat):Int):=by
 rw[Int.tdiv_eq_ediv_of_nonneg (Int.natCast_nonneg _)];rfl
theorem am4(m:Nat):(m:Int).tmod 10=((m % 10:Nat):Int):=by
 rw[Int.tmod_eq_emod_of_nonneg (Int.natCast_nonneg _)];rfl
end Go.WW
namespace Go.Proofs.YtfieenjdcpjmgaaGreatDoor
open Go.RowKit Go.WW
theorem am5(n:Nat):∀(w:World),n<4611686018427387904→Calls Tryz.prog 83 #[.int .i64 n] w fun e w'=>e=.returned (.string (eU n))∧Below w.heap.size w w':=by
 induction n using Nat.strongRecOn with
 |_ n ih=>
  intro w hn
  by_cases h:n<10
  ·have hd:(n:Int)<10:=by omega
   obtain⟨c,hc⟩:∃c,c=UInt8.ofNat (48+n):=⟨_,rfl⟩
   have HD:=Lib.hid (show eU n=⟨#[c]⟩ by rw[EI h,hc])
   have hcell:(c.toNat:Int)=48+(n:Int):=by rw[hc];simp;omega
   have hB:=aj (Below.refl _ w) (.cells #[.int .u8 (48+(n:Int))] 5)
   have hcv:=J9 (P:=Tryz.prog) (w.alloc (.cells #[.int .u8 (48+(n:Int))] 5)) 61 9 5 Tryz.underlying61 Tryz.underlying5 Tryz.underlying9 w.heap.size 0 1 [c] (fun i hi=>by
    obtain rfl:i=0:=by simp at hi;exact hi
    rw[cell_of_row _ _ _ _ _ _ (World.alloc_heap_new _ _)]
    simp only[List.getElem_cons_zero,hcell];rfl)
   have HB:=Lib.hid hB
   clear hcell hB hc
   rw[HD.out]
   go_enter Tryz.func83,Tryz.ntmps83
   go_wp2_with fail
   rw[show(convert 61 9 (.slice (some ⟨w.heap.size,0,none⟩) 1 1)).run Tryz.prog (w.alloc (.cells #[.int .u8 (48+(n:Int))] 5))=_ from hcv]
   go_wp2_with fail
   go_ret
   exact⟨rfl,HB.out⟩
  ·have hd:¬(n:Int)<10:=by omega
   have HD:=Lib.hid (Zg h)
   have hq:=am3 n
   have hr:=am4 n
   have H1:=Lib.hid (ih (n / 10) (by omega))
   have H2:=Lib.hid (ih (n % 10) (by omega))
   have h1:n / 10<4611686018427387904:=by omega
   have s1:=Zh h1
   have s2:=Zh (show n % 10<4611686018427387904 by omega)
   rw[HD.out]
   clear ih
   go_enter Tryz.func83,Tryz.ntmps83
   go_wp2_with fail
   refine(H1.out _ h1).mono ?_
   rintro e w1 ⟨rfl,hb1⟩
   go_wp2_with fail
   refine(H2.out _ (by omega)).mono ?_
   rintro e w2 ⟨rfl,hb2⟩
   go_wp2_with fail
   go_ret
   exact⟨rfl,ag hb1 hb2⟩
theorem vW(v:Int)(w:World)(h0:0≤v)(hv:v<4611686018427387904):Calls Tryz.prog 83 #[.int .i64 v] w fun e w'=>e=.returned (.string (eU v.toNat))∧Below w.heap.size w w':=by
 have:=am5 v.toNat w (by omega)
 rwa[Int.toNat_of_nonneg h0]at this
end Go.Proofs.YtfieenjdcpjmgaaGreatDoor
namespace Go.WW
open Go.RowKit
def pO(p:ai):ByteArray:=((((((((((((((((((p.name++⟨#[32,108,101,110,103,116,104,61]⟩)++eU p.length.toNat)++⟨#[32,99,108,97,115,115,101,115,61]⟩)++eU p.classes.toNat)++⟨#[32,100,105,115,116,105,110,99,116,61]⟩)++eU p.distinct.toNat)++⟨#[32,104,105,115,116,111,114,121,61]⟩)++eU p.history.toNat)++⟨#[32,97,103,101,61]⟩)++eU p.iH.toNat)++⟨#[46,46]⟩)++eU p.eu.toNat)++⟨#[32,102,97,105,108,115,61]⟩)++eU p.fails.toNat)++⟨#[32,108,111,99,107,61]⟩)++eU p.window.toNat)++⟨#[47]⟩)++eU p.lock.toNat)
structure Pg(p:ai):Prop where
 name:p.name.size≤32
 length:0≤p.length∧p.length≤1099511627776
 classes:0≤p.classes∧p.classes≤1099511627776
 distinct:0≤p.distinct∧p.distinct≤1099511627776
 history:0≤p.history∧p.history≤1099511627776
 iH:0≤p.iH∧p.iH≤1099511627776
 eu:0≤p.eu∧p.eu≤1099511627776
 fails:0≤p.fails∧p.fails≤1099511627776
 window:0≤p.window∧p.window≤1099511627776
 lock:0≤p.lock∧p.lock≤1099511627776
theorem BI{p:ai}(h:dP p=true):Pg p:=by
 simp only[dP,nX,Bool.and_eq_true,FC]at h
 obtain⟨⟨⟨⟨⟨⟨⟨⟨⟨⟨⟨-,h0⟩,h1⟩,h2⟩,h3⟩,h4⟩,h5⟩,h6⟩,-⟩,h7⟩,h8⟩,h9⟩:=h
 exact⟨by omega,by omega,by omega,by omega,by omega,by omega,by omega,by omega,by omega,by omega⟩
theorem ja{v:Int}(h:0≤v∧v≤1099511627776):(eU v.toNat).size≤13:=O9 13 v.toNat (by decide) (by omega)
end Go.WW
namespace Go.Proofs.YtfieenjdcpjmgaaGreatDoor
open Go.RowKit Go.WW
theorem am6(p:ai)(w:World)(hf:Pg p):Calls Tryz.prog 51 #[.agg (aC p)] w fun e w'=>e=.returned (.string (pO p))∧Below w.heap.size w w':=by
 have hB0:Below w.heap.size w (w.alloc (.cells (aC p) 50)):=aj (Below.refl _ _) _
 obtain⟨f0,f1,f2,f3,f4,f5,f6,f7,f8,f9⟩:=hf
 have d1:=ja f1
 have d2:=ja f2
 have d3:=ja f3
 have d4:=ja f4
 have d5:=ja f5
 have d6:=ja f6
 have d7:=ja f7
 have d8:=ja f8
 have d9:=ja f9
 obtain⟨S1,g1⟩:∃S,p.name++⟨#[32,108,101,110,103,116,104,61]⟩=S:=⟨_,rfl⟩
 have z1:S1.size≤42:=by rw[←g1,ByteArray.size_append];exact Nat.add_le_add f0 (by decide:_≤10)
 obtain⟨S2,g2⟩:∃S,S1++eU p.length.toNat=S:=⟨_,rfl⟩
 have z2:S2.size≤55:=by rw[←g2,ByteArray.size_append];exact Nat.add_le_add z1 d1
 obtain⟨S3,g3⟩:∃S,S2++⟨#[32,99,108,97,115,115,101,115,61]⟩=S:=⟨_,rfl⟩
 have z3:S3.size≤65:=by rw[←g3,ByteArray.size_append];exact Nat.add_le_add z2 (by decide:_≤10)
 obtain⟨S4,g4⟩:∃S,S3++eU p.classes.toNat=S:=⟨_,rfl⟩
 have z4:S4.size≤78:=by rw[←g4,ByteArray.size_append];exact Nat.add_le_add z3 d2
 obtain⟨S5,g5⟩:∃S,S4++⟨#[32,100,105,115,116,105,110,99,116,61]⟩=S:=⟨_,rfl⟩
 have z5:S5.size≤88:=by rw[←g5,ByteArray.size_append];exact Nat.add_le_add z4 (by decide:_≤10)
 obtain⟨S6,g6⟩:∃S,S5++eU p.distinct.toNat=S:=⟨_,rfl⟩
 have z6:S6.size≤101:=by rw[←g6,ByteArray.size_append];exact Nat.add_le_add z5 d3
 obtain⟨S7,g7⟩:∃S,S6++⟨#[32,104,105,115,116,111,114,121,61]⟩=S:=⟨_,rfl⟩
 have z7:S7.size≤111:=by rw[←g7,ByteArray.size_append];exact Nat.add_le_add z6 (by decide:_≤10)
 obtain⟨S8,g8⟩:∃S,S7++eU p.history.toNat=S:=⟨_,rfl⟩
 have z8:S8.size≤124:=by rw[←g8,ByteArray.size_append];exact Nat.add_le_add z7 d4
 obtain⟨S9,g9⟩:∃S,S8++⟨#[32,97,103,101,61]⟩=S:=⟨_,rfl⟩
 have z9:S9.size≤134:=by rw[←g9,ByteArray.size_append];exact Nat.add_le_add z8 (by decide:_≤10)
 obtain⟨EJ,g10⟩:∃S,S9++eU p.iH.toNat=S:=⟨_,rfl⟩
 have z10:EJ.size≤147:=by rw[←g10,ByteArray.size_append];exact Nat.add_le_add z9 d5
 obtain⟨vX,g11⟩:∃S,EJ++⟨#[46,46]⟩=S:=⟨_,rfl⟩
 have z11:vX.size≤157:=by rw[←g11,ByteArray.size_append];exact Nat.add_le_add z10 (by decide:_≤10)
 obtain⟨Zi,g12⟩:∃S,vX++eU p.eu.toNat=S:=⟨_,rfl⟩
 have z12:Zi.size≤170:=by rw[←g12,ByteArray.size_append];exact Nat.add_le_add z11 d6
 obtain⟨Zj,g13⟩:∃S,Zi++⟨#[32,102,97,105,108,115,61]⟩=S:=⟨_,rfl⟩
 have z13:Zj.size≤180:=by rw[←g13,ByteArray.size_append];exact Nat.add_le_add z12 (by decide:_≤10)
 obtain⟨Zk,g14⟩:∃S,Zj++eU p.fails.toNat=S:=⟨_,rfl⟩
 have z14:Zk.size≤193:=by rw[←g14,ByteArray.size_append];exact Nat.add_le_add z13 d7
 obtain⟨Zl,g15⟩:∃S,Zk++⟨#[32,108,111,99,107,61]⟩=S:=⟨_,rfl⟩
 have z15:Zl.size≤203:=by rw[←g15,ByteArray.size_append];exact Nat.add_le_add z14 (by decide:_≤10)
 obtain⟨Zm,g16⟩:∃S,Zl++eU p.window.toNat=S:=⟨_,rfl⟩
 have z16:Zm.size≤216:=by rw[←g16,ByteArray.size_append];exact Nat.add_le_add z15 d8
 obtain⟨Zn,g17⟩:∃S,Zm++⟨#[47]⟩=S:=⟨_,rfl⟩
 have z17:Zn.size≤226:=by rw[←g17,ByteArray.size_append];exact Nat.add_le_add z16 (by decide:_≤10)
 obtain⟨Zo,g18⟩:∃S,Zn++eU p.lock.toNat=S:=⟨_,rfl⟩
 have z18:Zo.size≤239:=by rw[←g18,ByteArray.size_append];exact Nat.add_le_add z17 d9
 have HT:=Lib.hid (show pO p=Zo by rw[←g18,←g17,←g16,←g15,←g14,←g13,←g12,←g11,←g10,←g9,←g8,←g7,←g6,←g5,←g4,←g3,←g2,←g1];rfl)
 rw[HT.out]
 go_enter Tryz.func51,Tryz.ntmps51
 go_wp2_with fail
 refine pW (Below.refl _ (w.alloc (.cells (aC p) 50))) (by kernel_rfl) (by kernel_rfl) ?_
 intro v0 hv0
 repeat (first|(refine ax (by rfl) ?_)|(refine aI (by rfl) (by rfl) (fun K hK=>?_);go_big_quiet_op;refine hK _ ?_;clear hK K))
 refine aK (by rfl) (by rfl) (fun K hK=>?_)
 go_wp2_with fail
 refine(vW _ _ f1.1 (by omega)).mono ?_
 rintro e v1 ⟨rfl,hb1⟩
 have hw1:=ag hv0 hb1
 clear hv0 hb1
 refine hK _ _ (aA hw1) ?_
 clear hK K
 repeat (first|(refine ax (by rfl) ?_)|(refine aI (by rfl) (by rfl) (fun K hK=>?_);go_big_quiet_op;refine hK _ ?_;clear hK K))
 refine aK (by rfl) (by rfl) (fun K hK=>?_)
 go_wp2_with fail
 refine(vW _ _ f2.1 (by omega)).mono ?_
 rintro e v2 ⟨rfl,hb2⟩
 have hw2:=ag hw1 hb2
 clear hw1 hb2
 refine hK _ _ (aA hw2) ?_
 clear hK K
 repeat (first|(refine ax (by rfl) ?_)|(refine aI (by rfl) (by rfl) (fun K hK=>?_);go_big_quiet_op;refine hK _ ?_;clear hK K))
 refine aK (by rfl) (by rfl) (fun K hK=>?_)
 go_wp2_with fail
 refine(vW _ _ f3.1 (by omega)).mono ?_
 rintro e v3 ⟨rfl,hb3⟩
 have hw3:=ag hw2 hb3
 clear hw2 hb3
 refine hK _ _ (aA hw3) ?_
 clear hK K
 repeat (first|(refine ax (by rfl) ?_)|(refine aI (by rfl) (by rfl) (fun K hK=>?_);go_big_quiet_op;refine hK _ ?_;clear hK K))
 refine aK (by rfl) (by rfl) (fun K hK=>?_)
 go_wp2_with fail
 refine(vW _ _ f4.1 (by omega)).mono ?_
 rintro e v4 ⟨rfl,hb4⟩
 have hw4:=ag hw3 hb4
 clear hw3 hb4
 refine hK _ _ (aA hw4) ?_
 clear hK K
 repeat (first|(refine ax (by rfl) ?_)|(refine aI (by rfl) (by rfl) (fun K hK=>?_);go_big_quiet_op;refine hK _ ?_;clear hK K))
 refine aK (by rfl) (by rfl) (fun K hK=>?_)
 go_wp2_with fail
 refine(vW _ _ f5.1 (by omega)).mono ?_
 rintro e v5 ⟨rfl,hb5⟩
 have hw5:=ag hw4 hb5
 clear hw4 hb5
 refine hK _ _ (aA hw5) ?_
 clear hK K
 repeat (first|(refine ax (by rfl) ?_)|(refine aI (by rfl) (by rfl) (fun K hK=>?_);go_big_quiet_op;refine hK _ ?_;clear hK K))
 refine aK (by rfl) (by rfl) (fun K hK=>?_)
 go_wp2_with fail
 refine(vW _ _ f6.1 (by omega)).mono ?_
 rintro e v6 ⟨rfl,hb6⟩
 have hw6:=ag hw5 hb6
 clear hw5 hb6
 refine hK _ _ (aA hw6) ?_
 clear hK K
 repeat (first|(refine ax (by rfl) ?_)|(refine aI (by rfl) (by rfl) (fun K hK=>?_);go_big_quiet_op;refine hK _ ?_;clear hK K))
 refine aK (by rfl) (by rfl) (fun K hK=>?_)
 go_wp2_with fail
 refine(vW _ _ f7.1 (by omega)).mono ?_
 rintro e v7 ⟨rfl,hb7⟩
 have hw7:=ag hw6 hb7
 clear hw6 hb7
 refine hK _ _ (aA hw7) ?_
 clear hK K
 repeat (first|(refine ax (by rfl) ?_)|(refine aI (by rfl) (by rfl) (fun K hK=>?_);go_big_quiet_op;refine hK _ ?_;clear hK K))
 refine aK (by rfl) (by rfl) (fun K hK=>?_)
 go_wp2_with fail
 refine(vW _ _ f8.1 (by omega)).mono ?_
 rintro e v8 ⟨rfl,hb8⟩
 have hw8:=ag hw7 hb8
 clear hw7 hb8
 refine hK _ _ (aA hw8) ?_
 clear hK K
 repeat (first|(refine ax (by rfl) ?_)|(refine aI (by rfl) (by rfl) (fun K hK=>?_);go_big_quiet_op;refine hK _ ?_;clear hK K))
 refine aK (by rfl) (by rfl) (fun K hK=>?_)
 go_wp2_with fail
 refine(vW _ _ f9.1 (by omega)).mono ?_
 rintro e v9 ⟨rfl,dW⟩
 have uT:=ag hw8 dW
 clear hw8 dW
 refine hK _ _ (aA uT) ?_
 clear hK K
 repeat (first|(refine ax (by rfl) ?_)|(refine aI (by rfl) (by rfl) (fun K hK=>?_);go_big_quiet_op;refine hK _ ?_;clear hK K))
 refine bV ?_
 go_wp2_with fail
 go_ret
 exact⟨rfl,ag hB0 uT⟩
end Go.Proofs.YtfieenjdcpjmgaaGreatDoor
namespace Go.WW
open Go.RowKit
def uH(l:List UInt8):List UInt8:=bM l.length 4++l
def qB(L:List ai):List (List UInt8):=L.map fun p=>uH (pO p).data.toList
def qC(L:List Entry):List (List UInt8):=L.map fun d=>uH (pJ d)
def Ph(D:Db):List UInt8:=(([UInt8.ofNat D.aG.size]++D.aG.data.toList)++bM D.ay.toNat 8)++bM D.au.length 4
def pR(D:Db):List UInt8:=((Ph D++(qB D.au).flatten)++bM D.entries.length 4)++(qC D.entries).flatten
theorem Zp{l:List (List UInt8)}{m:Nat}(h:∀x∈l,x.length≤m):l.flatten.length≤l.length*m:=by
 induction l with
 |nil=>simp
 |cons a l ih=>
  have h1:=h a List.mem_cons_self
  have h2:=ih fun x hx=>h x (List.mem_cons_of_mem _ hx)
  rw[List.flatten_cons,List.length_append,List.length_cons,Nat.succ_mul];omega
theorem Zq(l:List UInt8):(uH l).length=l.length+4:=by unfold uH;rw[List.length_append,iy];omega
theorem Pj{p:ai}(h:Pg p):(pO p).size≤300:=by
 obtain⟨f0,f1,f2,f3,f4,f5,f6,f7,f8,f9⟩:=h
 have d1:=ja f1
 have d2:=ja f2
 have d3:=ja f3
 have d4:=ja f4
 have d5:=ja f5
 have d6:=ja f6
 have d7:=ja f7
 have d8:=ja f8
 have d9:=ja f9
 have step:∀(s l d:ByteArray) (n:Nat),s.size≤n→l.size≤10→d.size≤13→((s++l)++d).size≤n+23:=fun s l d n h1 h2 h3=>by
  rw[ByteArray.size_append,ByteArray.size_append];omega
 unfold pO
 exact Nat.le_trans (step _ _ _ _ (step _ _ _ _ (step _ _ _ _ (step _ _ _ _ (step _ _ _ _ (step _ _ _ _ (step _ _ _ _ (step _ _ _ _ (step _ _ _ _ f0 (by decide) d1) (by decide) d2) (by decide) d3) (by decide) d4) (by decide) d5) (by decide) d6) (by decide) d7) (by decide) d8) (by decide) d9) (by decide)
structure BJ(D:Db):Prop where
 re:D.aG.size≤1000
 ay:0≤D.ay
 dL:∀q∈D.au,dP q=true
 dG:∀d∈D.entries,zB d
 np:D.au.length≤64
 ne:D.entries.length≤64
theorem Zr(D:Db)(h:BJ D):(qB D.au).flatten.length≤20000:=by
 have h1:∀x∈qB D.au,x.length≤304:=fun x hx=>by
  simp only[qB,List.mem_map]at hx
  obtain⟨q,hq,rfl⟩:=hx
  have:=Pj (BI (h.dL q hq))
  rw[Zq]
  have e:(pO q).data.toList.length=(pO q).size:=by simp
  omega
 have h2:=Zp h1
 have h3:(qB D.au).length=D.au.length:=by simp[qB]
 have:=h.np
 rw[h3]at h2
 have:D.au.length*304≤64*304:=Nat.mul_le_mul_right _ this
 omega
theorem Zt(D:Db)(h:BJ D):(qC D.entries).flatten.length≤30000000:=by
 have h1:∀x∈qC D.entries,x.length≤416089:=fun x hx=>by
  simp only[qC,List.mem_map]at hx
  obtain⟨q,hq,rfl⟩:=hx
  have:=OC (h.dG q hq)
  rw[Zq]
  omega
 have h2:=Zp h1
 have h3:(qC D.entries).length=D.entries.length:=by simp[qC]
 have:=h.ne
 rw[h3]at h2
 have:D.entries.length*416089≤64*416089:=Nat.mul_le_mul_right _ this
 omega
end Go.WW
namespace Go.Proofs.YtfieenjdcpjmgaaGreatDoor
open Go.RowKit Go.WW
theorem ana(e p:Sl)(D:Db)(w:World)(he:jd w e.a D.entries)(hp:je w p.a D.au)(hok:BJ D):Calls Tryz.prog 18 #[.agg (ak e p D)] w (bI w (pR D)):=by
 have hB:Below w.heap.size w (w.alloc (.cells (ak e p D) 32)):=aj (Below.refl _ _) _
 have hx0:=World.alloc_heap_new w (.cells (ak e p D) 32)
 obtain⟨S,hS⟩:∃S:Nat,S=D.ay.toNat:=⟨_,rfl⟩
 have Zu:D.ay=(S:Int):=by have:=hok.ay;omega
 obtain⟨c0,hc0⟩:∃c,c=UInt8.ofNat D.aG.size:=⟨_,rfl⟩
 have hc1:(D.aG.size:Int) % 256=c0.toNat:=by rw[hc0];simp
 have hre:D.aG.size≤1000:=hok.re
 have hnp:(D.au.length:Int)≤64:=by have:=hok.np;omega
 have hne:(D.entries.length:Int)≤64:=by have:=hok.ne;omega
 obtain⟨L1,hL1⟩:∃L,L=[c0]++D.aG.data.toList:=⟨_,rfl⟩
 obtain⟨L2,hL2⟩:∃L,L=L1++bM S 8:=⟨_,rfl⟩
 obtain⟨L3,hL3⟩:∃L,L=L2++bM D.au.length 4:=⟨_,rfl⟩
 have HH:=Lib.hid (show Ph D=L3 by rw[hL3,hL2,hL1,hc0,hS];rfl)
 have hl1:L1.length=1+D.aG.size:=by rw[hL1,List.length_append];simp
 have hl2:L2.length=9+D.aG.size:=by rw[hL2,List.length_append,iy,hl1];omega
 have hl3:L3.length=13+D.aG.size:=by rw[hL3,List.length_append,iy,hl2];omega
 have Pm:=Lib.hid hL1
 have HL2:=Lib.hid hL2
 have Pn:=Lib.hid hL3
 have Po:=Lib.hid hl1
 have Hl2:=Lib.hid hl2
 have I8:=Lib.hid hl3
 clear hL1 hL2 hL3 hl1 hl2 hl3 hS hc0
 have mi:=Lib.hid hok
 clear hok
 go_enter Tryz.func18,Tryz.ntmps18
 go_step
 apply Ig (M:=fun V=>Below w.heap.size w V∧V.heap[w.heap.size]?=some (.cells (ak e p D) 32))
 case h1=>
  go_wp2_with fail
  exact⟨rfl,⟨hB,hx0⟩⟩
 rintro W ⟨hBW,Pq⟩
 have HE:=Lib.hid (he.later hBW)
 have HP:=Lib.hid (hp.later hBW)
 have HBW:=Lib.hid hBW
 clear he hp hB hx0 hBW
 obtain⟨hc,hf,hr,hl⟩:=aB Pq
 have HXW:=Lib.hid Pq
 clear Pq
 have hR0:=dF.lit (T:=5) (Below.refl _ W) [c0] (cs:=#[.int .u8 c0.toNat]) rfl (by simp)
 iterate 3 go_step
 apply qy (M:=fun(s:Sl) V=>dF 5 W V s L1)
 case h1=>
  go_wp2_with (at_builtin;refine OG (L:=L1) rfl _ _ _ _ rfl Tryz.underlying61 Tryz.underlying9 (i:=(Tryz.prog.info? 5).get (by kernel_rfl)) (by kernel_rfl) (by kernel_rfl) (by kernel_rfl) (by kernel_rfl) hR0 rfl rfl rfl Pm.out (by have:=Po.out;omega) ?_;intro s3 w3 dh _ _)
  exact⟨s3,rfl,⟨dh⟩⟩
 rintro s1 V1 hR1
 iterate 3 go_step
 apply Xe (M:=fun(_:Sl) (s:Sl) V=>dF 5 W V s L2)
 case h1=>
  obtain⟨hcc,aT,hrr⟩:=bg hR1.b
  go_wp2_with fail
  refine(Ew S 8 _ (by decide)).mono ?_
  rintro e2 V2 ⟨s2,rfl,hb2,hd2⟩
  have hD2:=hd2.out
  clear hcc aT hrr
  go_wp2_with (at_builtin;refine iU (L:=L2) rfl _ _ _ rfl eF b8 (hR1.later hb2) rfl rfl rfl rfl hD2 HL2.out (by have:=Hl2.out;omega) ?_;intro s3 w3 dh)
  exact⟨s2,s3,rfl,⟨dh⟩⟩
 rintro-s2 V2 hR2
 iterate 3 go_step
 apply Xe (M:=fun(_:Sl) (s:Sl) V=>dF 5 W V s L3)
 case h1=>
  obtain⟨hcc,aT,hrr⟩:=bg hR2.b
  go_wp2_with fail
  refine(Ew D.au.length 4 _ (by decide)).mono ?_
  rintro e2 V3 ⟨s3,rfl,hb3,hd3⟩
  have hD3:=hd3.out
  clear hcc aT hrr
  go_wp2_with (at_builtin;refine iU (L:=L3) rfl _ _ _ rfl eF b8 (hR2.later hb3) rfl rfl rfl rfl hD3 Pn.out (by have:=I8.out;omega) ?_;intro s4 w4 zI)
  exact⟨s3,s4,rfl,⟨zI⟩⟩
 rintro-s3 V3 dh
 obtain⟨PL,vY⟩:∃PL,PL=qB D.au:=⟨_,rfl⟩
 have EK:=Lib.hid vY
 have zJ:=Lib.hid (show PL.length=D.au.length by rw[vY];simp[qB])
 have Pv:=Lib.hid (show PL.flatten.length≤20000 by rw[vY];exact Zr D mi.out)
 clear vY
 go_wp2_with fail
 go_loopw [3,4,5] (fun bv iv _ wr=>∃(k:Nat) (sc:Sl),k≤D.au.length∧iv=.int .i64 k∧∃M:List UInt8,Hid (M=L3++(PL.take k).flatten)∧bv=.slice sc.a M.length sc.cap∧dF 5 W wr sc M) (fun _ iv _ _=>D.au.length-(intOf iv).toNat)
 case atStart=>exact⟨0,s3,Nat.zero_le _,rfl,L3,by simp[Hid],rfl,dh⟩
 case round=>
  obtain⟨k,sc,hk,rfl,M,HM,rfl,hR⟩:=hrel
  have lS:=Lib.hid (show M.length≤22000 by have h1:=I8.out;have h2:=Pv.out;have h3:=zC PL k;rw[HM.out,List.length_append];omega)
  obtain⟨hcc,aT,hrr⟩:=bg hR.b
  by_cases hlt:k<D.au.length
  ·obtain⟨b,o,ha,hrow,hnm⟩:=HP.out.get k hlt
   have hb:b<W.heap.size:=gm hrow
   have hki:(k:Int)<(D.au.length:Int):=by omega
   obtain⟨str,hstr⟩:∃t,t=pO D.au[k]:=⟨_,rfl⟩
   have hsl:str.size≤300:=by rw[hstr];exact Pj (BI (mi.out.dL _ (List.getElem_mem hlt)))
   have HK:=Lib.hid (show(PL.take (k+1)).flatten=(PL.take k).flatten++(bM str.size 4++str.data.toList) by
    rw[xM (by rw[zJ.out];exact hlt)]
    congr 1
    have:PL[k]'(by rw[zJ.out];exact hlt)=uH (pO D.au[k]).data.toList:=by simp[EK.out,qB]
    rw[this,←hstr]
    unfold uH
    rw[show str.data.toList.length=str.size by simp])
   have anc:=Lib.hid hstr
   clear hstr
   go_wp2_with fail
   refine(am6 _ _ (BI (mi.out.dL _ (List.getElem_mem hlt)))).mono ?_
   rw[←anc.out]
   rintro e2 V4 ⟨rfl,hb4⟩
   have zI:=hR.later hb4
   clear hcc aT hrr hrow hnm
   go_wp2_with fail
   refine(Ew str.size 4 _ (by decide)).mono ?_
   rintro e3 V5 ⟨s5,rfl,hb5,hd5⟩
   have hD5:=hd5.out
   have vZ:=zI.later hb5
   obtain⟨M1,hM1⟩:∃N,N=M++bM str.size 4:=⟨_,rfl⟩
   obtain⟨M2,hM2⟩:∃N,N=M1++str.data.toList:=⟨_,rfl⟩
   have EM:=Lib.hid (show M1.length=M.length+4 by rw[hM1,List.length_append,iy])
   have Px:=Lib.hid (show M2.length=M.length+4+str.size by rw[hM2,List.length_append,EM.out];simp)
   have EN:=Lib.hid hM1
   have pg:=Lib.hid hM2
   have HSL:=Lib.hid hsl
   clear hM1 hM2 hb4 hb5 zI hd5 hsl
   go_wp2_with (first|(at_builtin;refine iU (L:=M1) rfl _ _ _ rfl eF b8 vZ rfl rfl rfl rfl hD5 EN.out (by have:=EM.out;have:=lS.out;omega) ?_;intro s6 w6 uI)|(at_builtin;refine OG (L:=M2) rfl _ _ _ _ rfl Tryz.underlying61 Tryz.underlying9 (i:=(Tryz.prog.info? 5).get (by kernel_rfl)) (by kernel_rfl) (by kernel_rfl) (by kernel_rfl) (by kernel_rfl) uI rfl rfl rfl pg.out (by have:=Px.out;have:=lS.out;have:=HSL.out;omega) ?_;intro s7 w7 uJ _ _))
   go_roundw
   case rel=>
    have HE:=Lib.hid (show M2=L3++(PL.take (k+1)).flatten by rw[pg.out,EN.out,HM.out,HK.out,List.append_assoc,List.append_assoc])
    try rw[←ha]
    (repeat apply Exists.intro)
    exact⟨⟨k+1,s7,by omega,by go_num,M2,HE.out,rfl,uJ⟩,rfl⟩
   case measure=>simp[intOf];omega
  have Py:=Lib.hid (show M=L3++PL.flatten by rw[HM.out,List.take_of_length_le (by rw[zJ.out];omega)])
  obtain⟨N4,xX⟩:∃N,N=M++bM D.entries.length 4:=⟨_,rfl⟩
  have I9:=Lib.hid xX
  have Ja:=Lib.hid (show N4.length≤22004 by have:=lS.out;rw[xX,List.length_append,iy];omega)
  obtain⟨EL,wu⟩:∃EL,EL=qC D.entries:=⟨_,rfl⟩
  have EO:=Lib.hid wu
  have zK:=Lib.hid (show EL.length=D.entries.length by rw[wu];simp[qC])
  have Pz:=Lib.hid (show EL.flatten.length≤30000000 by rw[wu];exact Zt D mi.out)
  clear xX wu
  go_wp2_with fail
  refine(Ew D.entries.length 4 _ (by decide)).mono ?_
  rintro e3 V5 ⟨s5,rfl,hb5,hd5⟩
  have hD5:=hd5.out
  have vZ:=hR.later hb5
  clear hcc aT hrr
  go_wp2_with (at_builtin;refine iU (L:=N4) rfl _ _ _ rfl eF b8 vZ rfl rfl rfl rfl hD5 I9.out (by have:=Ja.out;omega) ?_;intro s6 w6 uI)
  go_loopw [3,6,7] (fun bv iv _ wr=>∃(k:Nat) (sc:Sl),k≤D.entries.length∧iv=.int .i64 k∧∃M:List UInt8,Hid (M=N4++(EL.take k).flatten)∧bv=.slice sc.a M.length sc.cap∧dF 5 W wr sc M) (fun _ iv _ _=>D.entries.length-(intOf iv).toNat)
  case atStart=>exact⟨0,s6,Nat.zero_le _,rfl,N4,by simp[Hid],rfl,uI⟩
  case round=>
   obtain⟨k2,sd,hk2,rfl,M4,zL,rfl,uJ⟩:=hrel
   have BK:=Lib.hid (show M4.length≤30100000 by have h1:=Ja.out;have h2:=Pz.out;have h3:=zC EL k2;rw[zL.out,List.length_append];omega)
   obtain⟨hcc,aT,hrr⟩:=bg uJ.b
   by_cases hlt2:k2<D.entries.length
   ·obtain⟨b,o,rr,ha,hrow,hat⟩:=HE.out.get k2 hlt2
    have hb:b<W.heap.size:=gm hrow
    have hki:(k2:Int)<(D.entries.length:Int):=by omega
    have hat':=hat.later uJ.b
    go_wp2_with fail
    refine(amM _ _ _ hat' (mi.out.dG _ (List.getElem_mem hlt2))).mono ?_
    obtain⟨en,hen⟩:∃l,l=pJ D.entries[k2]:=⟨_,rfl⟩
    rw[←hen]
    have hel:en.length≤416085:=by rw[hen];exact OC (mi.out.dG _ (List.getElem_mem hlt2))
    have HK2:=Lib.hid (show(EL.take (k2+1)).flatten=(EL.take k2).flatten++(bM en.length 4++en) by
     rw[xM (by rw[zK.out];exact hlt2)]
     congr 1
     have:EL[k2]'(by rw[zK.out];exact hlt2)=uH (pJ D.entries[k2]):=by simp[EO.out,qC]
     rw[this,←hen]
     rfl)
    have HEN:=Lib.hid hel
    clear hen hel
    rintro e8 V8 ⟨s8,rfl,hb8,hd8⟩
    have Zv:=uJ.later hb8
    clear hcc aT hrr hrow hat hat'
    go_wp2_with fail
    refine(Ew en.length 4 _ (by decide)).mono ?_
    rintro e9 V9 ⟨s9,rfl,dW,hd9⟩
    have MB:=hd9.out
    have hR9:=Zv.later dW
    have HG:=Lib.hid (show ∀(x:World),V9.grownBy x sd.blk→BytesAt x s8.a en from fun x hx=>hd8 x fun j hj=>by
     have h1:=hj.1
     have h2:=hj.2
     refine(hx.block j (Nat.lt_of_lt_of_le h2 dW.size) (fun e=>?_)).trans (dW.block j h2)
     have:=(uJ.own.base e.symm).2
     omega)
    obtain⟨M1,hM1⟩:∃N,N=M4++bM en.length 4:=⟨_,rfl⟩
    obtain⟨M2,hM2⟩:∃N,N=M1++en:=⟨_,rfl⟩
    have EM:=Lib.hid (show M1.length=M4.length+4 by rw[hM1,List.length_append,iy])
    have Px:=Lib.hid (show M2.length=M4.length+4+en.length by rw[hM2,List.length_append,EM.out])
    have EN:=Lib.hid hM1
    have pg:=Lib.hid hM2
    clear hM1 hM2 hb8 dW Zv hd9 hd8
    go_wp2_with (first|(at_builtin;refine amD (L:=M1) rfl _ _ _ rfl eF b8 hR9 rfl rfl rfl rfl MB EN.out (by have:=EM.out;have:=BK.out;omega) ?_;intro sx wx hRx hgx;have hDx:=HG.out wx hgx)|(at_builtin;refine iU (L:=M2) rfl _ _ _ rfl eF b8 hRx rfl rfl rfl rfl hDx pg.out (by have:=Px.out;have:=BK.out;have:=HEN.out;omega) ?_;intro sy wy hRy))
    go_roundw
    case rel=>
     have HF:=Lib.hid (show M2=N4++(EL.take (k2+1)).flatten by rw[pg.out,EN.out,zL.out,HK2.out,List.append_assoc,List.append_assoc])
     try rw[←ha]
     (repeat apply Exists.intro)
     exact⟨⟨k2+1,sy,by omega,by go_num,M2,HF.out,rfl,hRy⟩,rfl⟩
    case measure=>simp[intOf];omega
   have HFin:=Lib.hid (show M4=pR D by rw[zL.out,List.take_of_length_le (by rw[zK.out];omega),I9.out,Py.out,EK.out,EO.out,←HH.out];rfl)
   go_wp2_with fail
   go_ret
   rw[←HFin.out]
   exact(uJ.Eu (by have:=BK.out;unfold lim;omega)).from HBW.out
end Go.Proofs.YtfieenjdcpjmgaaGreatDoor
