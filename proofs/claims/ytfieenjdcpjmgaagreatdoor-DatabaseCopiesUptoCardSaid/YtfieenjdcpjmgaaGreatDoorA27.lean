/- A part of the proof. -/
import Derived.Test.YtfieenjdcpjmgaaGreatDoorA26
import Derived.Test.YtfieenjdcpjmgaaGreatDoorA25
import Derived.Test.YtfieenjdcpjmgaaGreatDoorA07
import Derived.Lib.ItoaNum
import Derived.Test.YtfieenjdcpjmgaaGreatDoorA04
import Derived.Test.YtfieenjdcpjmgaaGreatDoorA09
import Derived.Test.YtfieenjdcpjmgaaGreatDoorA22
import Derived.Test.YtfieenjdcpjmgaaGreatDoorA10
set_option maxRecDepth 100000
set_option maxHeartbeats 16000000
namespace Go.Proofs.YtfieenjdcpjmgaaGreatDoor
open Go.RowKit Go.WW
theorem alU(v:Int)(w:World)(h0:0≤v):Calls Tryz.prog 90 #[.int .i64 v] w (bG w (uz v.toNat)):=by
 have:=alQ v.toNat w
 rwa[Int.toNat_of_nonneg h0]at this
theorem alV(r:aN)(d:Entry)(w:World)(he:bJ w r d)(hf:zl d):Calls Tryz.prog 52 #[.agg (ae r d)] w (bG w (pF d)):=by
 have hB0:Below w.heap.size w (w.alloc (.cells (ae r d) 47)):=aj (Below.refl _ _) _
 have nM:=he.later hB0
 have hT:=NV hf
 have HF:=Lib.hid (Nat.le_trans (NW hf) (by decide:416080≤1000000))
 have HK:=Lib.hid hf.keys.1
 have HH:=Lib.hid hf.history.1
 have hkn:=hf.keys.2
 have hhn:=hf.history.2
 have Bl:(dN (d.keys.map ja)).length≤26000:=by
  have h1:=map_le (f:=ja) (m:=1605) (n:=16) (l:=d.keys) (fun k hk=>NT (hf.keys.1 k hk)) hf.keys.2
  have h2:=uA (d.keys.map ja)
  omega
 have Bo:(dN (d.history.map fZ)).length≤26000:=by
  have h1:=map_le (f:=fZ) (m:=21) (n:=16) (l:=d.history) (fun b hb=>by have:=Bg b;have:=hf.history.1 b hb;omega) hf.history.2
  have h2:=uA (d.history.map fZ)
  omega
 have HT:=Lib.hid (show pF d=dN (dS 0 (oG d)) from rfl)
 have HB4:=Lib.hid Bl
 have alW:=Lib.hid Bo
 have HBT:=Lib.hid hT
 have HFF:=Lib.hid hf
 rw[HT.out]
 obtain⟨aqt,Oi⟩:∃x,x=dN (dS 0 (oG d)):=⟨_,rfl⟩
 have HG:=Lib.hid Oi
 rw[←Oi]
 clear Bl Bo hT hf Oi
 go_enter Tryz.func52,Tryz.ntmps52
 go_wp2_with fail
 go_loopw [3,5] (fun bv iv wr=>∃(n:Nat) (so:Sl) (L:List (List UInt8)),n≤d.keys.length∧iv=.int .i64 n∧bv=.slice so.a L.length so.cap∧gY 61 (w.alloc (.cells (ae r d) 47)) wr so L∧Hid (L=(d.keys.take n).map ja)) (fun _ i _=>d.keys.length-(intOf i).toNat)
 case atStart=>exact⟨0,⟨none,0⟩,[],Nat.zero_le _,rfl,rfl,gY.none _ (Below.refl _ _),rfl⟩
 case round=>
  obtain⟨n,so,L,hn,rfl,rfl,hH,HL⟩:=hrel
  obtain⟨hcc,aS,hrr⟩:=aY hH.b
  have hwl:w.heap.size<wr.heap.size:=by have:=hH.b.size;simp at this;omega
  by_cases hlt:n<d.keys.length
  ·obtain⟨b,o,t,ha,hrow,hp⟩:=(nM.keys.later hH.b).get n hlt
   have hbb:b<wr.heap.size:=gG hrow
   obtain⟨L',hL'⟩:∃L',L'=(d.keys.take (n+1)).map ja:=⟨_,rfl⟩
   obtain⟨x,hx⟩:∃x,x=ja d.keys[n]:=⟨_,rfl⟩
   have HA:=Lib.hid (show L'=L++[x] by rw[hL',hx,vN _ hlt HL.out])
   have hLn:L'.length≤1000000:=by rw[hL',List.length_map,List.length_take];omega
   have ku:=Lib.hid hL'
   have HX:=Lib.hid hx
   clear hL' hx
   go_wp2_with fail
   refine(alT t d.keys[n] _ hp (HK.out _ (List.getElem_mem hlt))).mono ?_
   rw[←HX.out]
   rintro e w2 ⟨s2,rfl,hb2,hd2⟩
   clear hcc aS hrr
   go_wp2_with (at_builtin;refine rX (L:=L') rfl _ _ _ rfl pW hH hb2 hd2 rfl rfl rfl rfl HA.out hLn ?_;intro s3 w3 hH3)
   go_roundw
   case rel=>exact⟨n+1,s3,L',by omega,by go_num,rfl,hH3,ku.out⟩
   case measure=>simp[intOf];omega
  ·have HE:=Lib.hid (show L=d.keys.map ja by rw[HL.out,vO _ hlt])
   have HLn:=Lib.hid (show(L.length:Int)=d.keys.length by rw[HE.out,List.length_map])
   have Bj:L.length≤16:=by have:=HLn.out;omega
   have hh1:=(hH.hist (by unfold lim;omega)).out
   have hb1:=hH.b
   have xH:=Lib.hid (show di (d.keys.map ja)=di L by rw[HE.out])
   have zx:=Lib.hid (Oc L)
   have Bl:=HB4.out
   rw[←HE.out]at Bl
   have HQ4:=Lib.hid Bl
   clear Bl
   clear hH HL
   go_wp2_with fail
   clear hcc aS hrr
   go_loopw [4,6] (fun bv iv wx=>∃(n:Nat) (so:Sl) (L:List (List UInt8)),n≤d.history.length∧iv=.int .i64 n∧bv=.slice so.a L.length so.cap∧gY 61 wr wx so L∧Hid (L=(d.history.take n).map fZ)) (fun _ i _=>d.history.length-(intOf i).toNat)
   case atStart=>exact⟨0,⟨none,0⟩,[],Nat.zero_le _,rfl,rfl,gY.none _ (Below.refl _ _),rfl⟩
   case round=>
    obtain⟨n,so2,L2,hn,rfl,rfl,hH,HL⟩:=hrel
    have hb2:=ag hb1 hH.b
    obtain⟨hcc,aS,hrr⟩:=aY hb2
    have aqv:=Nat.lt_of_lt_of_le hwl hH.b.size
    by_cases hlt:n<d.history.length
    ·obtain⟨b,o,t,ha,hck,hp⟩:=(nM.history.later hb2).get n hlt
     have hbb:=World.block_lt_of_cell? _ _ hck
     obtain⟨L',hL'⟩:∃L',L'=(d.history.take (n+1)).map fZ:=⟨_,rfl⟩
     obtain⟨x,hx⟩:∃x,x=fZ d.history[n]:=⟨_,rfl⟩
     have HA:=Lib.hid (show L'=L2++[x] by rw[hL',hx,vN _ hlt HL.out])
     have hLn:L'.length≤1000000:=by rw[hL',List.length_map,List.length_take];omega
     have ku:=Lib.hid hL'
     have HX:=Lib.hid hx
     have h16:=Lib.hid (HH.out _ (List.getElem_mem hlt))
     clear hL' hx
     go_wp2_with fail
     refine(XZ _ _ d.history[n] _ hp (by rw[h16.out];decide)).mono ?_
     rw[←HX.out]
     rintro e w2 ⟨s2,rfl,hbc,hd2⟩
     clear hcc aS hrr
     go_wp2_with (at_builtin;refine rX (L:=L') rfl _ _ _ rfl pW hH hbc hd2 rfl rfl rfl rfl HA.out hLn ?_;intro s3 w3 hH3)
     go_roundw
     case rel=>exact⟨n+1,s3,L',by omega,by go_num,rfl,hH3,ku.out⟩
     case measure=>simp[intOf];omega
    ·have HE2:=Lib.hid (show L2=d.history.map fZ by rw[HL.out,vO _ hlt])
     have al0:=Lib.hid (show(L2.length:Int)=d.history.length by rw[HE2.out,List.length_map])
     have aqw:L2.length≤16:=by have:=al0.out;omega
     have hh2:=(hH.hist (by unfold lim;omega)).out
     have al1:=hh1.later hH.b
     have IG:=nM.later hb2
     have Oh:=ag hB0 hb2
     have Bq:=Lib.hid (show di (d.history.map fZ)=di L2 by rw[HE2.out])
     have al2:=Lib.hid (Oc L2)
     have Bo:=alW.out
     rw[←HE2.out]at Bo
     have al3:=Lib.hid Bo
     have hT:=HBT.out
     have hf:=HFF.out
     clear Bo
     clear hH HL hh1 hb1 nM
     obtain⟨f1,f2,f3,f4,-,f6,f7,f8,f9,f10,f11,f12,f13,f14,f15,-⟩:=hf
     have c5:=Lib.hid (Og d.aO)
     simp only[oG,List.mem_cons,List.not_mem_nil,or_false,forall_eq_or_imp,forall_eq]at hT
     obtain⟨g0,g1,g2,g3,g4,g5,g6,g7,g8,g9,g10,g11,g12,g13,g14,g15⟩:=hT
     simp only[xH.out,Bq.out]at g4 g15
     have hfl:=HF.out
     simp only[oG,dS,xH.out,Bq.out]at hfl
     have En:=Lib.hid hfl
     have G0:=Lib.hid g0;have G1:=Lib.hid g1;have G2:=Lib.hid g2;have G3:=Lib.hid g3;have G4:=Lib.hid g4;have G5:=Lib.hid g5;have G6:=Lib.hid g6;have G7:=Lib.hid g7
     have G8:=Lib.hid g8;have G9:=Lib.hid g9;have G10:=Lib.hid g10;have G11:=Lib.hid g11;have G12:=Lib.hid g12;have G13:=Lib.hid g13;have G14:=Lib.hid g14;have G15:=Lib.hid g15
     clear hfl g0 g1 g2 g3 g4 g5 g6 g7 g8 g9 g10 g11 g12 g13 g14 g15
     go_wp2_with fail
     refine qH (Below.refl _ _) (by kernel_rfl) (by kernel_rfl) ?_
     intro v0 hv0
     have hP0:Ps _ v0 []:=⟨hv0,by simp⟩
     repeat (first|(refine ak (by rfl) ?_)|(refine aI (by rfl) (by rfl) (fun K hK=>?_);go_big_quiet_op;refine hK _ ?_;clear hK K))
     refine aK (by rfl) (by rfl) (fun K hK=>?_)
     go_wp2_with fail
     refine(X9 _ _ _ (IG.name.later hP0.b) f1).mono ?_
     rintro e v1 ⟨s1,rfl,hb1,hd1⟩
     have hP1:=hP0.mid hb1
     clear hP0 hb1
     refine hK _ _ (aA hP1.b) ?_
     clear hK K
     repeat (first|(refine ak (by rfl) ?_)|(refine aI (by rfl) (by rfl) (fun K hK=>?_);go_big_quiet_op;refine hK _ ?_;clear hK K))
     refine aK (by rfl) (by rfl) (fun K hK=>?_)
     go_wp2_with fail
     refine(jc 0 0 _ _ _ _ rfl (by decide) hd1.out (Nat.le_trans G0.out (by decide))).mono ?_
     rintro e v2 ⟨s2,rfl,hb2,hd2⟩
     have hP2:=hP1.add hb2 hd2.out
     clear hP1 hb2 hd1 hd2
     refine hK _ _ (aA hP2.b) ?_
     clear hK K
     repeat (first|(refine ak (by rfl) ?_)|(refine aI (by rfl) (by rfl) (fun K hK=>?_);go_big_quiet_op;refine hK _ ?_;clear hK K))
     refine aK (by rfl) (by rfl) (fun K hK=>?_)
     go_wp2_with fail
     refine(Oe _ _ _ _ (IG.aliases.later hP2.b) f2).mono ?_
     rintro e v3 ⟨s3,rfl,hb3,hd3⟩
     have hP3:=hP2.mid hb3
     clear hP2 hb3
     refine hK _ _ (aA hP3.b) ?_
     clear hK K
     repeat (first|(refine ak (by rfl) ?_)|(refine aI (by rfl) (by rfl) (fun K hK=>?_);go_big_quiet_op;refine hK _ ?_;clear hK K))
     refine aK (by rfl) (by rfl) (fun K hK=>?_)
     go_wp2_with fail
     refine(jc 1 1 _ _ _ _ rfl (by decide) hd3.out (Nat.le_trans G1.out (by decide))).mono ?_
     rintro e v4 ⟨s4,rfl,hb4,hd4⟩
     have kz:=hP3.add hb4 hd4.out
     clear hP3 hb4 hd3 hd4
     refine hK _ _ (aA kz.b) ?_
     clear hK K
     repeat (first|(refine ak (by rfl) ?_)|(refine aI (by rfl) (by rfl) (fun K hK=>?_);go_big_quiet_op;refine hK _ ?_;clear hK K))
     refine aK (by rfl) (by rfl) (fun K hK=>?_)
     go_wp2_with fail
     refine(alU _ _ f3.1).mono ?_
     rintro e v5 ⟨s5,rfl,hb5,hd5⟩
     have jM:=kz.mid hb5
     clear kz hb5
     refine hK _ _ (aA jM.b) ?_
     clear hK K
     repeat (first|(refine ak (by rfl) ?_)|(refine aI (by rfl) (by rfl) (fun K hK=>?_);go_big_quiet_op;refine hK _ ?_;clear hK K))
     refine aK (by rfl) (by rfl) (fun K hK=>?_)
     go_wp2_with fail
     refine(jc 2 2 _ _ _ _ rfl (by decide) hd5.out (Nat.le_trans G2.out (by decide))).mono ?_
     rintro e v6 ⟨s6,rfl,hb6,hd6⟩
     have oH:=jM.add hb6 hd6.out
     clear jM hb6 hd5 hd6
     refine hK _ _ (aA oH.b) ?_
     clear hK K
     repeat (first|(refine ak (by rfl) ?_)|(refine aI (by rfl) (by rfl) (fun K hK=>?_);go_big_quiet_op;refine hK _ ?_;clear hK K))
     refine aK (by rfl) (by rfl) (fun K hK=>?_)
     go_wp2_with fail
     refine(IC _ _ f4.1 (by omega)).mono ?_
     rintro e v7 ⟨s7,rfl,hb7,hd7⟩
     have rY:=oH.mid hb7
     clear oH hb7
     refine hK _ _ (aA rY.b) ?_
     clear hK K
     repeat (first|(refine ak (by rfl) ?_)|(refine aI (by rfl) (by rfl) (fun K hK=>?_);go_big_quiet_op;refine hK _ ?_;clear hK K))
     refine aK (by rfl) (by rfl) (fun K hK=>?_)
     go_wp2_with fail
     refine(jc 3 3 _ _ _ _ rfl (by decide) hd7.out (Nat.le_trans G3.out (by decide))).mono ?_
     rintro e v8 ⟨s8,rfl,hb8,hd8⟩
     have pI:=rY.add hb8 hd8.out
     clear rY hb8 hd7 hd8
     refine hK _ _ (aA pI.b) ?_
     clear hK K
     repeat (first|(refine ak (by rfl) ?_)|(refine aI (by rfl) (by rfl) (fun K hK=>?_);go_big_quiet_op;refine hK _ ?_;clear hK K))
     refine aK (by rfl) (by rfl) (fun K hK=>?_)
     go_wp2_with fail
     refine(uC _ _ L _ (al1.later pI.b) (by have h9:=oD 48 L.flatten;have:(dN L).length=(tlv 48 L.flatten).length:=rfl;have:=HQ4.out;omega)).mono ?_
     rintro e v9 ⟨s9,rfl,fH,hd9⟩
     have xI:=pI.mid fH
     clear pI fH
     refine hK _ _ (aA xI.b) ?_
     clear hK K
     repeat (first|(refine ak (by rfl) ?_)|(refine aI (by rfl) (by rfl) (fun K hK=>?_);go_big_quiet_op;refine hK _ ?_;clear hK K))
     refine aK (by rfl) (by rfl) (fun K hK=>?_)
     go_wp2_with fail
     refine(vM _ s9 _ (di L) _ hd9 zx.out).mono ?_
     rintro e _ ⟨s10,rfl,rfl,hd10⟩
     clear hd9
     refine hK _ _ (aA xI.b) ?_
     clear hK K
     repeat (first|(refine ak (by rfl) ?_)|(refine aI (by rfl) (by rfl) (fun K hK=>?_);go_big_quiet_op;refine hK _ ?_;clear hK K))
     refine aK (by rfl) (by rfl) (fun K hK=>?_)
     go_wp2_with fail
     refine(jc 4 4 _ _ _ _ rfl (by decide) hd10.out (Nat.le_trans G4.out (by decide))).mono ?_
     rintro e v11 ⟨s11,rfl,xF,hd11⟩
     have rZ:=xI.add xF hd11.out
     clear xI xF hd10 hd11
     refine hK _ _ (aA rZ.b) ?_
     clear hK K
     repeat (first|(refine ak (by rfl) ?_)|(refine aI (by rfl) (by rfl) (fun K hK=>?_);go_big_quiet_op;refine hK _ ?_;clear hK K))
     refine aK (by rfl) (by rfl) (fun K hK=>?_)
     go_wp2_with fail
     refine(Iz _ _ (Nat.le_trans f6 (by decide))).mono ?_
     rintro e v12 ⟨s12,rfl,dW,xG⟩
     have nK:=rZ.mid dW
     clear rZ dW
     refine hK _ _ (aA nK.b) ?_
     clear hK K
     repeat (first|(refine ak (by rfl) ?_)|(refine aI (by rfl) (by rfl) (fun K hK=>?_);go_big_quiet_op;refine hK _ ?_;clear hK K))
     refine aK (by rfl) (by rfl) (fun K hK=>?_)
     go_wp2_with fail
     refine(vM _ s12 _ (jL d.aO) _ xG c5.out).mono ?_
     rintro e _ ⟨s13,rfl,rfl,xJ⟩
     clear xG
     refine hK _ _ (aA nK.b) ?_
     clear hK K
     repeat (first|(refine ak (by rfl) ?_)|(refine aI (by rfl) (by rfl) (fun K hK=>?_);go_big_quiet_op;refine hK _ ?_;clear hK K))
     refine aK (by rfl) (by rfl) (fun K hK=>?_)
     go_wp2_with fail
     refine(jc 5 5 _ _ _ _ rfl (by decide) xJ.out (Nat.le_trans G5.out (by decide))).mono ?_
     rintro e v14 ⟨s14,rfl,oq,Eo⟩
     have xK:=nK.add oq Eo.out
     clear nK oq xJ Eo
     refine hK _ _ (aA xK.b) ?_
     clear hK K
     repeat (first|(refine ak (by rfl) ?_)|(refine aI (by rfl) (by rfl) (fun K hK=>?_);go_big_quiet_op;refine hK _ ?_;clear hK K))
     refine aK (by rfl) (by rfl) (fun K hK=>?_)
     go_wp2_with fail
     refine(IE _ _ f7.1).mono ?_
     rintro e v15 ⟨s15,rfl,vP,Ep⟩
     have xM:=xK.mid vP
     clear xK vP
     refine hK _ _ (aA xM.b) ?_
     clear hK K
     repeat (first|(refine ak (by rfl) ?_)|(refine aI (by rfl) (by rfl) (fun K hK=>?_);go_big_quiet_op;refine hK _ ?_;clear hK K))
     refine aK (by rfl) (by rfl) (fun K hK=>?_)
     go_wp2_with fail
     refine(jc 6 6 _ _ _ _ rfl (by decide) Ep.out (Nat.le_trans G6.out (by decide))).mono ?_
     rintro e v16 ⟨s16,rfl,hb16,Es⟩
     have uD:=xM.add hb16 Es.out
     clear xM hb16 Ep Es
     refine hK _ _ (aA uD.b) ?_
     clear hK K
     repeat (first|(refine ak (by rfl) ?_)|(refine aI (by rfl) (by rfl) (fun K hK=>?_);go_big_quiet_op;refine hK _ ?_;clear hK K))
     refine aK (by rfl) (by rfl) (fun K hK=>?_)
     go_wp2_with fail
     refine(IE _ _ f8.1).mono ?_
     rintro e v17 ⟨s17,rfl,Bv,Yc⟩
     have Oj:=uD.mid Bv
     clear uD Bv
     refine hK _ _ (aA Oj.b) ?_
     clear hK K
     repeat (first|(refine ak (by rfl) ?_)|(refine aI (by rfl) (by rfl) (fun K hK=>?_);go_big_quiet_op;refine hK _ ?_;clear hK K))
     refine aK (by rfl) (by rfl) (fun K hK=>?_)
     go_wp2_with fail
     refine(jc 7 7 _ _ _ _ rfl (by decide) Yc.out (Nat.le_trans G7.out (by decide))).mono ?_
     rintro e v18 ⟨s18,rfl,Bz,Yd⟩
     have Ol:=Oj.add Bz Yd.out
     clear Oj Bz Yc Yd
     refine hK _ _ (aA Ol.b) ?_
     clear hK K
     repeat (first|(refine ak (by rfl) ?_)|(refine aI (by rfl) (by rfl) (fun K hK=>?_);go_big_quiet_op;refine hK _ ?_;clear hK K))
     refine aK (by rfl) (by rfl) (fun K hK=>?_)
     go_wp2_with fail
     refine(IC _ _ f9.1 (by omega)).mono ?_
     rintro e v19 ⟨s19,rfl,Ye,Yf⟩
     have Om:=Ol.mid Ye
     clear Ol Ye
     refine hK _ _ (aA Om.b) ?_
     clear hK K
     repeat (first|(refine ak (by rfl) ?_)|(refine aI (by rfl) (by rfl) (fun K hK=>?_);go_big_quiet_op;refine hK _ ?_;clear hK K))
     refine aK (by rfl) (by rfl) (fun K hK=>?_)
     go_wp2_with fail
     refine(jc 8 8 _ _ _ _ rfl (by decide) Yf.out (Nat.le_trans G8.out (by decide))).mono ?_
     rintro e v20 ⟨s20,rfl,Yg,Yh⟩
     have Oo:=Om.add Yg Yh.out
     clear Om Yg Yf Yh
     refine hK _ _ (aA Oo.b) ?_
     clear hK K
     repeat (first|(refine ak (by rfl) ?_)|(refine aI (by rfl) (by rfl) (fun K hK=>?_);go_big_quiet_op;refine hK _ ?_;clear hK K))
     refine aK (by rfl) (by rfl) (fun K hK=>?_)
     go_wp2_with fail
     refine(IC _ _ f10.1 (by omega)).mono ?_
     rintro e v21 ⟨s21,rfl,Yi,Yj⟩
     have Oq:=Oo.mid Yi
     clear Oo Yi
     refine hK _ _ (aA Oq.b) ?_
     clear hK K
     repeat (first|(refine ak (by rfl) ?_)|(refine aI (by rfl) (by rfl) (fun K hK=>?_);go_big_quiet_op;refine hK _ ?_;clear hK K))
     refine aK (by rfl) (by rfl) (fun K hK=>?_)
     go_wp2_with fail
     refine(jc 9 9 _ _ _ _ rfl (by decide) Yj.out (Nat.le_trans G9.out (by decide))).mono ?_
     rintro e v22 ⟨s22,rfl,Yk,Yl⟩
     have Ot:=Oq.add Yk Yl.out
     clear Oq Yk Yj Yl
     refine hK _ _ (aA Ot.b) ?_
     clear hK K
     repeat (first|(refine ak (by rfl) ?_)|(refine aI (by rfl) (by rfl) (fun K hK=>?_);go_big_quiet_op;refine hK _ ?_;clear hK K))
     refine aK (by rfl) (by rfl) (fun K hK=>?_)
     go_wp2_with fail
     refine(IC _ _ f11.1 (by omega)).mono ?_
     rintro e v23 ⟨s23,rfl,rU,Ym⟩
     have Ou:=Ot.mid rU
     clear Ot rU
     refine hK _ _ (aA Ou.b) ?_
     clear hK K
     repeat (first|(refine ak (by rfl) ?_)|(refine aI (by rfl) (by rfl) (fun K hK=>?_);go_big_quiet_op;refine hK _ ?_;clear hK K))
     refine aK (by rfl) (by rfl) (fun K hK=>?_)
     go_wp2_with fail
     refine(jc 10 10 _ _ _ _ rfl (by decide) Ym.out (Nat.le_trans G10.out (by decide))).mono ?_
     rintro e v24 ⟨s24,rfl,Yn,hd24⟩
     have Ov:=Ou.add Yn hd24.out
     clear Ou Yn Ym hd24
     refine hK _ _ (aA Ov.b) ?_
     clear hK K
     repeat (first|(refine ak (by rfl) ?_)|(refine aI (by rfl) (by rfl) (fun K hK=>?_);go_big_quiet_op;refine hK _ ?_;clear hK K))
     refine aK (by rfl) (by rfl) (fun K hK=>?_)
     go_wp2_with fail
     refine(IE _ _ f12.1).mono ?_
     rintro e v25 ⟨s25,rfl,Yo,hd25⟩
     have Ox:=Ov.mid Yo
     clear Ov Yo
     refine hK _ _ (aA Ox.b) ?_
     clear hK K
     repeat (first|(refine ak (by rfl) ?_)|(refine aI (by rfl) (by rfl) (fun K hK=>?_);go_big_quiet_op;refine hK _ ?_;clear hK K))
     refine aK (by rfl) (by rfl) (fun K hK=>?_)
     go_wp2_with fail
     refine(jc 11 11 _ _ _ _ rfl (by decide) hd25.out (Nat.le_trans G11.out (by decide))).mono ?_
     rintro e v26 ⟨s26,rfl,Yp,Yq⟩
     have Oy:=Ox.add Yp Yq.out
     clear Ox Yp hd25 Yq
     refine hK _ _ (aA Oy.b) ?_
     clear hK K
     repeat (first|(refine ak (by rfl) ?_)|(refine aI (by rfl) (by rfl) (fun K hK=>?_);go_big_quiet_op;refine hK _ ?_;clear hK K))
     refine aK (by rfl) (by rfl) (fun K hK=>?_)
     go_wp2_with fail
     refine(IE _ _ f13.1).mono ?_
     rintro e v27 ⟨s27,rfl,Yr,hd27⟩
     have Oz:=Oy.mid Yr
     clear Oy Yr
     refine hK _ _ (aA Oz.b) ?_
     clear hK K
     repeat (first|(refine ak (by rfl) ?_)|(refine aI (by rfl) (by rfl) (fun K hK=>?_);go_big_quiet_op;refine hK _ ?_;clear hK K))
     refine aK (by rfl) (by rfl) (fun K hK=>?_)
     go_wp2_with fail
     refine(jc 12 12 _ _ _ _ rfl (by decide) hd27.out (Nat.le_trans G12.out (by decide))).mono ?_
     rintro e v28 ⟨s28,rfl,Yt,hd28⟩
     have II:=Oz.add Yt hd28.out
     clear Oz Yt hd27 hd28
     refine hK _ _ (aA II.b) ?_
     clear hK K
     repeat (first|(refine ak (by rfl) ?_)|(refine aI (by rfl) (by rfl) (fun K hK=>?_);go_big_quiet_op;refine hK _ ?_;clear hK K))
     refine aK (by rfl) (by rfl) (fun K hK=>?_)
     go_wp2_with fail
     refine(Oe _ _ _ _ (IG.targets.later II.b) f14).mono ?_
     rintro e v29 ⟨s29,rfl,Yu,hd29⟩
     have OA:=II.mid Yu
     clear II Yu
     refine hK _ _ (aA OA.b) ?_
     clear hK K
     repeat (first|(refine ak (by rfl) ?_)|(refine aI (by rfl) (by rfl) (fun K hK=>?_);go_big_quiet_op;refine hK _ ?_;clear hK K))
     refine aK (by rfl) (by rfl) (fun K hK=>?_)
     go_wp2_with fail
     refine(jc 13 13 _ _ _ _ rfl (by decide) hd29.out (Nat.le_trans G13.out (by decide))).mono ?_
     rintro e v30 ⟨s30,rfl,Yv,Yw⟩
     have IJ:=OA.add Yv Yw.out
     clear OA Yv hd29 Yw
     refine hK _ _ (aA IJ.b) ?_
     clear hK K
     repeat (first|(refine ak (by rfl) ?_)|(refine aI (by rfl) (by rfl) (fun K hK=>?_);go_big_quiet_op;refine hK _ ?_;clear hK K))
     refine aK (by rfl) (by rfl) (fun K hK=>?_)
     go_wp2_with fail
     refine(Oe _ _ _ _ (IG.bu.later IJ.b) f15).mono ?_
     rintro e v31 ⟨s31,rfl,Yx,hd31⟩
     have OB:=IJ.mid Yx
     clear IJ Yx
     refine hK _ _ (aA OB.b) ?_
     clear hK K
     repeat (first|(refine ak (by rfl) ?_)|(refine aI (by rfl) (by rfl) (fun K hK=>?_);go_big_quiet_op;refine hK _ ?_;clear hK K))
     refine aK (by rfl) (by rfl) (fun K hK=>?_)
     go_wp2_with fail
     refine(jc 14 14 _ _ _ _ rfl (by decide) hd31.out (Nat.le_trans G14.out (by decide))).mono ?_
     rintro e v32 ⟨s32,rfl,Yy,hd32⟩
     have IK:=OB.add Yy hd32.out
     clear OB Yy hd31 hd32
     refine hK _ _ (aA IK.b) ?_
     clear hK K
     repeat (first|(refine ak (by rfl) ?_)|(refine aI (by rfl) (by rfl) (fun K hK=>?_);go_big_quiet_op;refine hK _ ?_;clear hK K))
     refine aK (by rfl) (by rfl) (fun K hK=>?_)
     go_wp2_with fail
     refine(uC _ _ L2 _ (hh2.later IK.b) (by have h9:=oD 48 L2.flatten;have:(dN L2).length=(tlv 48 L2.flatten).length:=rfl;have:=al3.out;omega)).mono ?_
     rintro e v33 ⟨s33,rfl,Yz,YA⟩
     have IL:=IK.mid Yz
     clear IK Yz
     refine hK _ _ (aA IL.b) ?_
     clear hK K
     repeat (first|(refine ak (by rfl) ?_)|(refine aI (by rfl) (by rfl) (fun K hK=>?_);go_big_quiet_op;refine hK _ ?_;clear hK K))
     refine aK (by rfl) (by rfl) (fun K hK=>?_)
     go_wp2_with fail
     refine(vM _ s33 _ (di L2) _ YA al2.out).mono ?_
     rintro e _ ⟨s34,rfl,rfl,hd34⟩
     clear YA
     refine hK _ _ (aA IL.b) ?_
     clear hK K
     repeat (first|(refine ak (by rfl) ?_)|(refine aI (by rfl) (by rfl) (fun K hK=>?_);go_big_quiet_op;refine hK _ ?_;clear hK K))
     refine aK (by rfl) (by rfl) (fun K hK=>?_)
     go_wp2_with fail
     refine(jc 15 15 _ _ _ _ rfl (by decide) hd34.out (Nat.le_trans G15.out (by decide))).mono ?_
     rintro e v35 ⟨s35,rfl,YB,YC⟩
     have BA:=IL.add YB YC.out
     clear IL YB hd34 YC
     refine hK _ _ (aA BA.b) ?_
     clear hK K
     repeat (first|(refine ak (by rfl) ?_)|(refine aI (by rfl) (by rfl) (fun K hK=>?_);go_big_quiet_op;refine hK _ ?_;clear hK K))
     refine aK (by rfl) (by rfl) (fun K hK=>?_)
     go_wp2_with fail
     refine hK _ _ (aA (aj BA.b _)) ?_
     clear hK K
     repeat (first|(refine ak (by rfl) ?_)|(refine aI (by rfl) (by rfl) (fun K hK=>?_);go_big_quiet_op;refine hK _ ?_;clear hK K))
     refine aK (by rfl) (by rfl) (fun K hK=>?_)
     go_wp2_with fail
     refine(uC _ _ [bM 0 (fD d.name),bM 1 (di (d.aliases.map fD)),bM 2 (uz d.attrs.toNat),bM 3 (fP d.dP.toNat),bM 4 (di L),bM 5 (jL d.aO),bM 6 (iZ d.ik.toNat),bM 7 (iZ d.iq.toNat),bM 8 (fP d.gQ.toNat),bM 9 (fP d.gU.toNat),bM 10 (fP d.fails.toNat),bM 11 (iZ d.eY.toNat),bM 12 (iZ d.gy.toNat),bM 13 (di (d.targets.map fD)),bM 14 (di (d.bu.map fD)),bM 15 (di L2)] _ (fG.lit _ rfl rfl BA.at_ (by simp[lim])) En.out).mono ?_
     rintro e vz ⟨sz,rfl,hbz,hdz⟩
     have HB:=Lib.hid (bG.from (W:=w) ⟨sz,rfl,hbz,hdz⟩ (ag Oh (aj BA.b _)))
     have sF:=ag (aj BA.b _) hbz
     clear BA hdz hbz
     refine hK _ _ (aA sF) ?_
     clear hK K
     repeat (first|(refine ak (by rfl) ?_)|(refine aI (by rfl) (by rfl) (fun K hK=>?_);go_big_quiet_op;refine hK _ ?_;clear hK K))
     refine bQ ?_
     go_wp2_with fail
     go_ret
     rw[HG.out]
     simp only[oG,dS,xH.out,Bq.out]
     exact HB.out
end Go.Proofs.YtfieenjdcpjmgaaGreatDoor
namespace Go.WW
open Go.RowKit
def eF(n:Nat):ByteArray:=⟨(Lib.decDigits n).toArray⟩
theorem Et{n:Nat}(h:n<10):eF n=⟨#[UInt8.ofNat (48+n)]⟩:=by unfold eF;rw[Lib.decDigits_one h]
theorem YD{n:Nat}(h:¬n<10):eF n=eF (n / 10)++eF (n % 10):=by
 rw[Et (show n % 10<10 by omega)]
 unfold eF
 rw[Lib.decDigits,dif_neg h]
 exact(ByteArray.mk_append_mk (Lib.decDigits (n / 10)) [UInt8.ofNat (48+n % 10)]).symm
theorem OC:∀(k n:Nat),0<k→n<10 ^ k→(eF n).size≤k
 |0,_,h,_=>absurd h (Nat.lt_irrefl 0)
 |1,n,_,h=>by rw[Et (by simpa using h)];exact Nat.le_refl _
 |k+2,n,_,h=>by
  by_cases h1:n<10
  ·rw[Et h1];exact Nat.le_add_left 1 (k+1)
  ·rw[YD h1,ByteArray.size_append]
   have h2:=OC (k+1) (n / 10) (by omega) (by rw[Nat.div_lt_iff_lt_mul (by decide),←Nat.pow_succ];exact h)
   have h3:(eF (n % 10)).size=1:=by rw[Et (by omega)];rfl
   omega
theorem YE{n:Nat}(h:n<4611686018427387904):(eF n).size≤19:=OC 19 n (by decide) (Nat.lt_trans h (by decide))
theorem amb(m:Nat):(m:Int).tdiv 10=((m / 10:Nat):Int):=by
 rw[Int.tdiv_eq_ediv_of_nonneg (Int.natCast_nonneg _)];rfl
theorem amc(m:Nat):(m:Int).tmod 10=((m % 10:Nat):Int):=by
 rw[Int.tmod_eq_emod_of_nonneg (Int.natCast_nonneg _)];rfl
end Go.WW
namespace Go.Proofs.YtfieenjdcpjmgaaGreatDoor
open Go.RowKit Go.WW
theorem amd(n:Nat):∀(w:World),n<4611686018427387904→Calls Tryz.prog 83 #[.int .i64 n] w fun e w'=>e=.returned (.string (eF n))∧Below w.heap.size w w':=by
 induction n using Nat.strongRecOn with
 |_ n ih=>
  intro w hn
  by_cases h:n<10
  ·have hd:(n:Int)<10:=by omega
   obtain⟨c,hc⟩:∃c,c=UInt8.ofNat (48+n):=⟨_,rfl⟩
   have HD:=Lib.hid (show eF n=⟨#[c]⟩ by rw[Et h,hc])
   have hcell:(c.toNat:Int)=48+(n:Int):=by rw[hc];simp;omega
   have hB:=aj (Below.refl _ w) (.cells #[.int .u8 (48+(n:Int))] 5)
   have hcv:=JQ (P:=Tryz.prog) (w.alloc (.cells #[.int .u8 (48+(n:Int))] 5)) 61 9 5 Tryz.underlying61 Tryz.underlying5 Tryz.underlying9 w.heap.size 0 1 [c] (fun i hi=>by
    obtain rfl:i=0:=by simp at hi;exact hi
    rw[cell_of_row _ _ _ _ _ _ (World.alloc_heap_new _ _)]
    simp only[List.getElem_cons_zero,hcell];rfl)
   have HB:=Lib.hid hB
   clear hcell hB hc
   rw[HD.out]
   go_enter Tryz.func83,Tryz.ntmps83
   go_wp2_with fail
   rw[show(convert 61 9 (.slice (some ⟨w.heap.size,0,none⟩) 1 1)).run Tryz.prog (w.alloc (.cells #[.int .u8 (48+(n:Int))] 5))=_ from hcv]
   go_wp2_with fail
   go_ret
   exact⟨rfl,HB.out⟩
  ·have hd:¬(n:Int)<10:=by omega
   have HD:=Lib.hid (YD h)
   have hq:=amb n
   have hr:=amc n
   have H1:=Lib.hid (ih (n / 10) (by omega))
   have H2:=Lib.hid (ih (n % 10) (by omega))
   have h1:n / 10<4611686018427387904:=by omega
   have s1:=YE h1
   have s2:=YE (show n % 10<4611686018427387904 by omega)
   rw[HD.out]
   clear ih
   go_enter Tryz.func83,Tryz.ntmps83
   go_wp2_with fail
   refine(H1.out _ h1).mono ?_
   rintro e w1 ⟨rfl,hb1⟩
   go_wp2_with fail
   refine(H2.out _ (by omega)).mono ?_
   rintro e w2 ⟨rfl,hb2⟩
   go_wp2_with fail
   go_ret
   exact⟨rfl,ag hb1 hb2⟩
theorem vS(v:Int)(w:World)(h0:0≤v)(hv:v<4611686018427387904):Calls Tryz.prog 83 #[.int .i64 v] w fun e w'=>e=.returned (.string (eF v.toNat))∧Below w.heap.size w w':=by
 have:=amd v.toNat w (by omega)
 rwa[Int.toNat_of_nonneg h0]at this
end Go.Proofs.YtfieenjdcpjmgaaGreatDoor
namespace Go.WW
open Go.RowKit
def pJ(p:ah):ByteArray:=((((((((((((((((((p.name++⟨#[32,108,101,110,103,116,104,61]⟩)++eF p.length.toNat)++⟨#[32,99,108,97,115,115,101,115,61]⟩)++eF p.classes.toNat)++⟨#[32,100,105,115,116,105,110,99,116,61]⟩)++eF p.distinct.toNat)++⟨#[32,104,105,115,116,111,114,121,61]⟩)++eF p.history.toNat)++⟨#[32,97,103,101,61]⟩)++eF p.iy.toNat)++⟨#[46,46]⟩)++eF p.dY.toNat)++⟨#[32,102,97,105,108,115,61]⟩)++eF p.fails.toNat)++⟨#[32,108,111,99,107,61]⟩)++eF p.window.toNat)++⟨#[47]⟩)++eF p.lock.toNat)
structure OD(p:ah):Prop where
 name:p.name.size≤32
 length:0≤p.length∧p.length≤1099511627776
 classes:0≤p.classes∧p.classes≤1099511627776
 distinct:0≤p.distinct∧p.distinct≤1099511627776
 history:0≤p.history∧p.history≤1099511627776
 iy:0≤p.iy∧p.iy≤1099511627776
 dY:0≤p.dY∧p.dY≤1099511627776
 fails:0≤p.fails∧p.fails≤1099511627776
 window:0≤p.window∧p.window≤1099511627776
 lock:0≤p.lock∧p.lock≤1099511627776
theorem BB{p:ah}(h:dL p=true):OD p:=by
 simp only[dL,nP,Bool.and_eq_true,Fh]at h
 obtain⟨⟨⟨⟨⟨⟨⟨⟨⟨⟨⟨-,h0⟩,h1⟩,h2⟩,h3⟩,h4⟩,h5⟩,h6⟩,-⟩,h7⟩,h8⟩,h9⟩:=h
 exact⟨by omega,by omega,by omega,by omega,by omega,by omega,by omega,by omega,by omega,by omega⟩
theorem iQ{v:Int}(h:0≤v∧v≤1099511627776):(eF v.toNat).size≤13:=OC 13 v.toNat (by decide) (by omega)
end Go.WW
namespace Go.Proofs.YtfieenjdcpjmgaaGreatDoor
open Go.RowKit Go.WW
theorem ame(p:ah)(w:World)(hf:OD p):Calls Tryz.prog 51 #[.agg (aG p)] w fun e w'=>e=.returned (.string (pJ p))∧Below w.heap.size w w':=by
 have hB0:Below w.heap.size w (w.alloc (.cells (aG p) 50)):=aj (Below.refl _ _) _
 obtain⟨f0,f1,f2,f3,f4,f5,f6,f7,f8,f9⟩:=hf
 have d1:=iQ f1
 have d2:=iQ f2
 have d3:=iQ f3
 have d4:=iQ f4
 have d5:=iQ f5
 have d6:=iQ f6
 have d7:=iQ f7
 have d8:=iQ f8
 have d9:=iQ f9
 obtain⟨S1,g1⟩:∃S,p.name++⟨#[32,108,101,110,103,116,104,61]⟩=S:=⟨_,rfl⟩
 have z1:S1.size≤42:=by rw[←g1,ByteArray.size_append];exact Nat.add_le_add f0 (by decide:_≤10)
 obtain⟨S2,g2⟩:∃S,S1++eF p.length.toNat=S:=⟨_,rfl⟩
 have z2:S2.size≤55:=by rw[←g2,ByteArray.size_append];exact Nat.add_le_add z1 d1
 obtain⟨S3,g3⟩:∃S,S2++⟨#[32,99,108,97,115,115,101,115,61]⟩=S:=⟨_,rfl⟩
 have z3:S3.size≤65:=by rw[←g3,ByteArray.size_append];exact Nat.add_le_add z2 (by decide:_≤10)
 obtain⟨S4,g4⟩:∃S,S3++eF p.classes.toNat=S:=⟨_,rfl⟩
 have z4:S4.size≤78:=by rw[←g4,ByteArray.size_append];exact Nat.add_le_add z3 d2
 obtain⟨S5,g5⟩:∃S,S4++⟨#[32,100,105,115,116,105,110,99,116,61]⟩=S:=⟨_,rfl⟩
 have z5:S5.size≤88:=by rw[←g5,ByteArray.size_append];exact Nat.add_le_add z4 (by decide:_≤10)
 obtain⟨S6,g6⟩:∃S,S5++eF p.distinct.toNat=S:=⟨_,rfl⟩
 have z6:S6.size≤101:=by rw[←g6,ByteArray.size_append];exact Nat.add_le_add z5 d3
 obtain⟨S7,g7⟩:∃S,S6++⟨#[32,104,105,115,116,111,114,121,61]⟩=S:=⟨_,rfl⟩
 have z7:S7.size≤111:=by rw[←g7,ByteArray.size_append];exact Nat.add_le_add z6 (by decide:_≤10)
 obtain⟨S8,g8⟩:∃S,S7++eF p.history.toNat=S:=⟨_,rfl⟩
 have z8:S8.size≤124:=by rw[←g8,ByteArray.size_append];exact Nat.add_le_add z7 d4
 obtain⟨S9,g9⟩:∃S,S8++⟨#[32,97,103,101,61]⟩=S:=⟨_,rfl⟩
 have z9:S9.size≤134:=by rw[←g9,ByteArray.size_append];exact Nat.add_le_add z8 (by decide:_≤10)
 obtain⟨Eu,g10⟩:∃S,S9++eF p.iy.toNat=S:=⟨_,rfl⟩
 have z10:Eu.size≤147:=by rw[←g10,ByteArray.size_append];exact Nat.add_le_add z9 d5
 obtain⟨vT,g11⟩:∃S,Eu++⟨#[46,46]⟩=S:=⟨_,rfl⟩
 have z11:vT.size≤157:=by rw[←g11,ByteArray.size_append];exact Nat.add_le_add z10 (by decide:_≤10)
 obtain⟨YF,g12⟩:∃S,vT++eF p.dY.toNat=S:=⟨_,rfl⟩
 have z12:YF.size≤170:=by rw[←g12,ByteArray.size_append];exact Nat.add_le_add z11 d6
 obtain⟨YG,g13⟩:∃S,YF++⟨#[32,102,97,105,108,115,61]⟩=S:=⟨_,rfl⟩
 have z13:YG.size≤180:=by rw[←g13,ByteArray.size_append];exact Nat.add_le_add z12 (by decide:_≤10)
 obtain⟨YH,g14⟩:∃S,YG++eF p.fails.toNat=S:=⟨_,rfl⟩
 have z14:YH.size≤193:=by rw[←g14,ByteArray.size_append];exact Nat.add_le_add z13 d7
 obtain⟨YI,g15⟩:∃S,YH++⟨#[32,108,111,99,107,61]⟩=S:=⟨_,rfl⟩
 have z15:YI.size≤203:=by rw[←g15,ByteArray.size_append];exact Nat.add_le_add z14 (by decide:_≤10)
 obtain⟨YJ,g16⟩:∃S,YI++eF p.window.toNat=S:=⟨_,rfl⟩
 have z16:YJ.size≤216:=by rw[←g16,ByteArray.size_append];exact Nat.add_le_add z15 d8
 obtain⟨YK,g17⟩:∃S,YJ++⟨#[47]⟩=S:=⟨_,rfl⟩
 have z17:YK.size≤226:=by rw[←g17,ByteArray.size_append];exact Nat.add_le_add z16 (by decide:_≤10)
 obtain⟨YL,g18⟩:∃S,YK++eF p.lock.toNat=S:=⟨_,rfl⟩
 have z18:YL.size≤239:=by rw[←g18,ByteArray.size_append];exact Nat.add_le_add z17 d9
 have HT:=Lib.hid (show pJ p=YL by rw[←g18,←g17,←g16,←g15,←g14,←g13,←g12,←g11,←g10,←g9,←g8,←g7,←g6,←g5,←g4,←g3,←g2,←g1];rfl)
 rw[HT.out]
 go_enter Tryz.func51,Tryz.ntmps51
 go_wp2_with fail
 refine qH (Below.refl _ (w.alloc (.cells (aG p) 50))) (by kernel_rfl) (by kernel_rfl) ?_
 intro v0 hv0
 repeat (first|(refine ak (by rfl) ?_)|(refine aI (by rfl) (by rfl) (fun K hK=>?_);go_big_quiet_op;refine hK _ ?_;clear hK K))
 refine aK (by rfl) (by rfl) (fun K hK=>?_)
 go_wp2_with fail
 refine(vS _ _ f1.1 (by omega)).mono ?_
 rintro e v1 ⟨rfl,hb1⟩
 have hw1:=ag hv0 hb1
 clear hv0 hb1
 refine hK _ _ (aA hw1) ?_
 clear hK K
 repeat (first|(refine ak (by rfl) ?_)|(refine aI (by rfl) (by rfl) (fun K hK=>?_);go_big_quiet_op;refine hK _ ?_;clear hK K))
 refine aK (by rfl) (by rfl) (fun K hK=>?_)
 go_wp2_with fail
 refine(vS _ _ f2.1 (by omega)).mono ?_
 rintro e v2 ⟨rfl,hb2⟩
 have hw2:=ag hw1 hb2
 clear hw1 hb2
 refine hK _ _ (aA hw2) ?_
 clear hK K
 repeat (first|(refine ak (by rfl) ?_)|(refine aI (by rfl) (by rfl) (fun K hK=>?_);go_big_quiet_op;refine hK _ ?_;clear hK K))
 refine aK (by rfl) (by rfl) (fun K hK=>?_)
 go_wp2_with fail
 refine(vS _ _ f3.1 (by omega)).mono ?_
 rintro e v3 ⟨rfl,hb3⟩
 have hw3:=ag hw2 hb3
 clear hw2 hb3
 refine hK _ _ (aA hw3) ?_
 clear hK K
 repeat (first|(refine ak (by rfl) ?_)|(refine aI (by rfl) (by rfl) (fun K hK=>?_);go_big_quiet_op;refine hK _ ?_;clear hK K))
 refine aK (by rfl) (by rfl) (fun K hK=>?_)
 go_wp2_with fail
 refine(vS _ _ f4.1 (by omega)).mono ?_
 rintro e v4 ⟨rfl,hb4⟩
 have hw4:=ag hw3 hb4
 clear hw3 hb4
 refine hK _ _ (aA hw4) ?_
 clear hK K
 repeat (first|(refine ak (by rfl) ?_)|(refine aI (by rfl) (by rfl) (fun K hK=>?_);go_big_quiet_op;refine hK _ ?_;clear hK K))
 refine aK (by rfl) (by rfl) (fun K hK=>?_)
 go_wp2_with fail
 refine(vS _ _ f5.1 (by omega)).mono ?_
 rintro e v5 ⟨rfl,hb5⟩
 have hw5:=ag hw4 hb5
 clear hw4 hb5
 refine hK _ _ (aA hw5) ?_
 clear hK K
 repeat (first|(refine ak (by rfl) ?_)|(refine aI (by rfl) (by rfl) (fun K hK=>?_);go_big_quiet_op;refine hK _ ?_;clear hK K))
 refine aK (by rfl) (by rfl) (fun K hK=>?_)
 go_wp2_with fail
 refine(vS _ _ f6.1 (by omega)).mono ?_
 rintro e v6 ⟨rfl,hb6⟩
 have hw6:=ag hw5 hb6
 clear hw5 hb6
 refine hK _ _ (aA hw6) ?_
 clear hK K
 repeat (first|(refine ak (by rfl) ?_)|(refine aI (by rfl) (by rfl) (fun K hK=>?_);go_big_quiet_op;refine hK _ ?_;clear hK K))
 refine aK (by rfl) (by rfl) (fun K hK=>?_)
 go_wp2_with fail
 refine(vS _ _ f7.1 (by omega)).mono ?_
 rintro e v7 ⟨rfl,hb7⟩
 have hw7:=ag hw6 hb7
 clear hw6 hb7
 refine hK _ _ (aA hw7) ?_
 clear hK K
 repeat (first|(refine ak (by rfl) ?_)|(refine aI (by rfl) (by rfl) (fun K hK=>?_);go_big_quiet_op;refine hK _ ?_;clear hK K))
 refine aK (by rfl) (by rfl) (fun K hK=>?_)
 go_wp2_with fail
 refine(vS _ _ f8.1 (by omega)).mono ?_
 rintro e v8 ⟨rfl,hb8⟩
 have hw8:=ag hw7 hb8
 clear hw7 hb8
 refine hK _ _ (aA hw8) ?_
 clear hK K
 repeat (first|(refine ak (by rfl) ?_)|(refine aI (by rfl) (by rfl) (fun K hK=>?_);go_big_quiet_op;refine hK _ ?_;clear hK K))
 refine aK (by rfl) (by rfl) (fun K hK=>?_)
 go_wp2_with fail
 refine(vS _ _ f9.1 (by omega)).mono ?_
 rintro e v9 ⟨rfl,fH⟩
 have uS:=ag hw8 fH
 clear hw8 fH
 refine hK _ _ (aA uS) ?_
 clear hK K
 repeat (first|(refine ak (by rfl) ?_)|(refine aI (by rfl) (by rfl) (fun K hK=>?_);go_big_quiet_op;refine hK _ ?_;clear hK K))
 refine bQ ?_
 go_wp2_with fail
 go_ret
 exact⟨rfl,ag hB0 uS⟩
end Go.Proofs.YtfieenjdcpjmgaaGreatDoor
namespace Go.WW
open Go.RowKit
def uF(l:List UInt8):List UInt8:=bK l.length 4++l
def qm(L:List ah):List (List UInt8):=L.map fun p=>uF (pJ p).data.toList
def qo(L:List Entry):List (List UInt8):=L.map fun d=>uF (pF d)
def OE(D:Db):List UInt8:=(([UInt8.ofNat D.aF.size]++D.aF.data.toList)++bK D.ay.toNat 8)++bK D.ax.length 4
def jd(D:Db):List UInt8:=((OE D++(qm D.ax).flatten)++bK D.entries.length 4)++(qo D.entries).flatten
theorem YM{l:List (List UInt8)}{m:Nat}(h:∀x∈l,x.length≤m):l.flatten.length≤l.length*m:=by
 induction l with
 |nil=>simp
 |cons a l ih=>
  have h1:=h a List.mem_cons_self
  have h2:=ih fun x hx=>h x (List.mem_cons_of_mem _ hx)
  rw[List.flatten_cons,List.length_append,List.length_cons,Nat.succ_mul];omega
theorem YN(l:List UInt8):(uF l).length=l.length+4:=by unfold uF;rw[List.length_append,gX];omega
theorem OG{p:ah}(h:OD p):(pJ p).size≤300:=by
 obtain⟨f0,f1,f2,f3,f4,f5,f6,f7,f8,f9⟩:=h
 have d1:=iQ f1
 have d2:=iQ f2
 have d3:=iQ f3
 have d4:=iQ f4
 have d5:=iQ f5
 have d6:=iQ f6
 have d7:=iQ f7
 have d8:=iQ f8
 have d9:=iQ f9
 have step:∀(s l d:ByteArray) (n:Nat),s.size≤n→l.size≤10→d.size≤13→((s++l)++d).size≤n+23:=fun s l d n h1 h2 h3=>by
  rw[ByteArray.size_append,ByteArray.size_append];omega
 unfold pJ
 exact Nat.le_trans (step _ _ _ _ (step _ _ _ _ (step _ _ _ _ (step _ _ _ _ (step _ _ _ _ (step _ _ _ _ (step _ _ _ _ (step _ _ _ _ (step _ _ _ _ f0 (by decide) d1) (by decide) d2) (by decide) d3) (by decide) d4) (by decide) d5) (by decide) d6) (by decide) d7) (by decide) d8) (by decide) d9) (by decide)
structure BC(D:Db):Prop where
 re:D.aF.size≤1000
 ay:0≤D.ay
 dQ:∀q∈D.ax,dL q=true
 dK:∀d∈D.entries,zl d
 np:D.ax.length≤64
 ne:D.entries.length≤64
theorem YO(D:Db)(h:BC D):(qm D.ax).flatten.length≤20000:=by
 have h1:∀x∈qm D.ax,x.length≤304:=fun x hx=>by
  simp only[qm,List.mem_map]at hx
  obtain⟨q,hq,rfl⟩:=hx
  have:=OG (BB (h.dQ q hq))
  rw[YN]
  have e:(pJ q).data.toList.length=(pJ q).size:=by simp
  omega
 have h2:=YM h1
 have h3:(qm D.ax).length=D.ax.length:=by simp[qm]
 have:=h.np
 rw[h3]at h2
 have:D.ax.length*304≤64*304:=Nat.mul_le_mul_right _ this
 omega
theorem YP(D:Db)(h:BC D):(qo D.entries).flatten.length≤30000000:=by
 have h1:∀x∈qo D.entries,x.length≤416089:=fun x hx=>by
  simp only[qo,List.mem_map]at hx
  obtain⟨q,hq,rfl⟩:=hx
  have:=NY (h.dK q hq)
  rw[YN]
  omega
 have h2:=YM h1
 have h3:(qo D.entries).length=D.entries.length:=by simp[qo]
 have:=h.ne
 rw[h3]at h2
 have:D.entries.length*416089≤64*416089:=Nat.mul_le_mul_right _ this
 omega
end Go.WW
namespace Go.Proofs.YtfieenjdcpjmgaaGreatDoor
open Go.RowKit Go.WW
theorem ami(e p:Sl)(D:Db)(w:World)(he:jy w e.a D.entries)(hp:iU w p.a D.ax)(hok:BC D):Calls Tryz.prog 18 #[.agg (au e p D)] w (bG w (jd D)):=by
 have hB:Below w.heap.size w (w.alloc (.cells (au e p D) 32)):=aj (Below.refl _ _) _
 have hx0:=World.alloc_heap_new w (.cells (au e p D) 32)
 obtain⟨S,hS⟩:∃S:Nat,S=D.ay.toNat:=⟨_,rfl⟩
 have YQ:D.ay=(S:Int):=by have:=hok.ay;omega
 obtain⟨c0,hc0⟩:∃c,c=UInt8.ofNat D.aF.size:=⟨_,rfl⟩
 have hc1:(D.aF.size:Int) % 256=c0.toNat:=by rw[hc0];simp
 have hre:D.aF.size≤1000:=hok.re
 have hnp:(D.ax.length:Int)≤64:=by have:=hok.np;omega
 have hne:(D.entries.length:Int)≤64:=by have:=hok.ne;omega
 obtain⟨L1,hL1⟩:∃L,L=[c0]++D.aF.data.toList:=⟨_,rfl⟩
 obtain⟨L2,hL2⟩:∃L,L=L1++bK S 8:=⟨_,rfl⟩
 obtain⟨L3,hL3⟩:∃L,L=L2++bK D.ax.length 4:=⟨_,rfl⟩
 have HH:=Lib.hid (show OE D=L3 by rw[hL3,hL2,hL1,hc0,hS];rfl)
 have hl1:L1.length=1+D.aF.size:=by rw[hL1,List.length_append];simp
 have hl2:L2.length=9+D.aF.size:=by rw[hL2,List.length_append,gX,hl1];omega
 have hl3:L3.length=13+D.aF.size:=by rw[hL3,List.length_append,gX,hl2];omega
 have OH:=Lib.hid hL1
 have HL2:=Lib.hid hL2
 have OI:=Lib.hid hL3
 have OJ:=Lib.hid hl1
 have Hl2:=Lib.hid hl2
 have IM:=Lib.hid hl3
 clear hL1 hL2 hL3 hl1 hl2 hl3 hS hc0
 have lW:=Lib.hid hok
 clear hok
 go_enter Tryz.func18,Tryz.ntmps18
 go_step
 apply MN (M:=fun V=>Below w.heap.size w V∧V.heap[w.heap.size]?=some (.cells (au e p D) 32))
 case h1=>
  go_wp2_with fail
  exact⟨rfl,⟨hB,hx0⟩⟩
 rintro W ⟨hBW,OL⟩
 have HE:=Lib.hid (he.later hBW)
 have HP:=Lib.hid (hp.later hBW)
 have HBW:=Lib.hid hBW
 clear he hp hB hx0 hBW
 obtain⟨hc,hf,hr,hl⟩:=aC OL
 have HXW:=Lib.hid OL
 clear OL
 have hR0:=dE.lit (T:=5) (Below.refl _ W) [c0] (cs:=#[.int .u8 c0.toNat]) rfl (by simp)
 iterate 3 go_step
 apply uu (M:=fun(s:Sl) V=>dE 5 W V s L1)
 case h1=>
  go_wp2_with (at_builtin;refine N8 (L:=L1) rfl _ _ _ _ rfl Tryz.underlying61 Tryz.underlying9 (i:=(Tryz.prog.info? 5).get (by kernel_rfl)) (by kernel_rfl) (by kernel_rfl) (by kernel_rfl) (by kernel_rfl) hR0 rfl rfl rfl OH.out (by have:=OJ.out;omega) ?_;intro s3 w3 cZ _ _)
  exact⟨s3,rfl,⟨cZ⟩⟩
 rintro s1 V1 hR1
 iterate 3 go_step
 apply WS (M:=fun(_:Sl) (s:Sl) V=>dE 5 W V s L2)
 case h1=>
  obtain⟨hcc,aS,hrr⟩:=aY hR1.b
  go_wp2_with fail
  refine(Ei S 8 _ (by decide)).mono ?_
  rintro e2 V2 ⟨s2,rfl,hb2,hd2⟩
  have hD2:=hd2.out
  clear hcc aS hrr
  go_wp2_with (at_builtin;refine iK (L:=L2) rfl _ _ _ rfl dZ b8 (hR1.later hb2) rfl rfl rfl rfl hD2 HL2.out (by have:=Hl2.out;omega) ?_;intro s3 w3 cZ)
  exact⟨s2,s3,rfl,⟨cZ⟩⟩
 rintro-s2 V2 hR2
 iterate 3 go_step
 apply WS (M:=fun(_:Sl) (s:Sl) V=>dE 5 W V s L3)
 case h1=>
  obtain⟨hcc,aS,hrr⟩:=aY hR2.b
  go_wp2_with fail
  refine(Ei D.ax.length 4 _ (by decide)).mono ?_
  rintro e2 V3 ⟨s3,rfl,hb3,hd3⟩
  have hD3:=hd3.out
  clear hcc aS hrr
  go_wp2_with (at_builtin;refine iK (L:=L3) rfl _ _ _ rfl dZ b8 (hR2.later hb3) rfl rfl rfl rfl hD3 OI.out (by have:=IM.out;omega) ?_;intro s4 w4 zy)
  exact⟨s3,s4,rfl,⟨zy⟩⟩
 rintro-s3 V3 cZ
 obtain⟨PL,vU⟩:∃PL,PL=qm D.ax:=⟨_,rfl⟩
 have Ew:=Lib.hid vU
 have zA:=Lib.hid (show PL.length=D.ax.length by rw[vU];simp[qm])
 have OM:=Lib.hid (show PL.flatten.length≤20000 by rw[vU];exact YO D lW.out)
 clear vU
 go_wp2_with fail
 go_loopw [3,4,5] (fun bv iv _ wr=>∃(k:Nat) (sc:Sl),k≤D.ax.length∧iv=.int .i64 k∧∃M:List UInt8,Hid (M=L3++(PL.take k).flatten)∧bv=.slice sc.a M.length sc.cap∧dE 5 W wr sc M) (fun _ iv _ _=>D.ax.length-(intOf iv).toNat)
 case atStart=>exact⟨0,s3,Nat.zero_le _,rfl,L3,by simp[Hid],rfl,cZ⟩
 case round=>
  obtain⟨k,sc,hk,rfl,M,HM,rfl,hR⟩:=hrel
  have lI:=Lib.hid (show M.length≤22000 by have h1:=IM.out;have h2:=OM.out;have h3:=zn PL k;rw[HM.out,List.length_append];omega)
  obtain⟨hcc,aS,hrr⟩:=aY hR.b
  by_cases hlt:k<D.ax.length
  ·obtain⟨b,o,ha,hrow,hnm⟩:=HP.out.get k hlt
   have hb:b<W.heap.size:=gG hrow
   have hki:(k:Int)<(D.ax.length:Int):=by omega
   obtain⟨str,hstr⟩:∃t,t=pJ D.ax[k]:=⟨_,rfl⟩
   have hsl:str.size≤300:=by rw[hstr];exact OG (BB (lW.out.dQ _ (List.getElem_mem hlt)))
   have HK:=Lib.hid (show(PL.take (k+1)).flatten=(PL.take k).flatten++(bK str.size 4++str.data.toList) by
    rw[xC (by rw[zA.out];exact hlt)]
    congr 1
    have:PL[k]'(by rw[zA.out];exact hlt)=uF (pJ D.ax[k]).data.toList:=by simp[Ew.out,qm]
    rw[this,←hstr]
    unfold uF
    rw[show str.data.toList.length=str.size by simp])
   have amk:=Lib.hid hstr
   clear hstr
   go_wp2_with fail
   refine(ame _ _ (BB (lW.out.dQ _ (List.getElem_mem hlt)))).mono ?_
   rw[←amk.out]
   rintro e2 V4 ⟨rfl,hb4⟩
   have zy:=hR.later hb4
   clear hcc aS hrr hrow hnm
   go_wp2_with fail
   refine(Ei str.size 4 _ (by decide)).mono ?_
   rintro e3 V5 ⟨s5,rfl,hb5,hd5⟩
   have hD5:=hd5.out
   have vV:=zy.later hb5
   obtain⟨M1,hM1⟩:∃N,N=M++bK str.size 4:=⟨_,rfl⟩
   obtain⟨M2,hM2⟩:∃N,N=M1++str.data.toList:=⟨_,rfl⟩
   have Ey:=Lib.hid (show M1.length=M.length+4 by rw[hM1,List.length_append,gX])
   have OO:=Lib.hid (show M2.length=M.length+4+str.size by rw[hM2,List.length_append,Ey.out];simp)
   have Ez:=Lib.hid hM1
   have oV:=Lib.hid hM2
   have HSL:=Lib.hid hsl
   clear hM1 hM2 hb4 hb5 zy hd5 hsl
   go_wp2_with (first|(at_builtin;refine iK (L:=M1) rfl _ _ _ rfl dZ b8 vV rfl rfl rfl rfl hD5 Ez.out (by have:=Ey.out;have:=lI.out;omega) ?_;intro s6 w6 uG)|(at_builtin;refine N8 (L:=M2) rfl _ _ _ _ rfl Tryz.underlying61 Tryz.underlying9 (i:=(Tryz.prog.info? 5).get (by kernel_rfl)) (by kernel_rfl) (by kernel_rfl) (by kernel_rfl) (by kernel_rfl) uG rfl rfl rfl oV.out (by have:=OO.out;have:=lI.out;have:=HSL.out;omega) ?_;intro s7 w7 uH _ _))
   go_roundw
   case rel=>
    have HE:=Lib.hid (show M2=L3++(PL.take (k+1)).flatten by rw[oV.out,Ez.out,HM.out,HK.out,List.append_assoc,List.append_assoc])
    try rw[←ha]
    (repeat apply Exists.intro)
    exact⟨⟨k+1,s7,by omega,by go_num,M2,HE.out,rfl,uH⟩,rfl⟩
   case measure=>simp[intOf];omega
  have OQ:=Lib.hid (show M=L3++PL.flatten by rw[HM.out,List.take_of_length_le (by rw[zA.out];omega)])
  obtain⟨N4,xN⟩:∃N,N=M++bK D.entries.length 4:=⟨_,rfl⟩
  have IP:=Lib.hid xN
  have IQ:=Lib.hid (show N4.length≤22004 by have:=lI.out;rw[xN,List.length_append,gX];omega)
  obtain⟨EL,vW⟩:∃EL,EL=qo D.entries:=⟨_,rfl⟩
  have EC:=Lib.hid vW
  have zB:=Lib.hid (show EL.length=D.entries.length by rw[vW];simp[qo])
  have OT:=Lib.hid (show EL.flatten.length≤30000000 by rw[vW];exact YP D lW.out)
  clear xN vW
  go_wp2_with fail
  refine(Ei D.entries.length 4 _ (by decide)).mono ?_
  rintro e3 V5 ⟨s5,rfl,hb5,hd5⟩
  have hD5:=hd5.out
  have vV:=hR.later hb5
  clear hcc aS hrr
  go_wp2_with (at_builtin;refine iK (L:=N4) rfl _ _ _ rfl dZ b8 vV rfl rfl rfl rfl hD5 IP.out (by have:=IQ.out;omega) ?_;intro s6 w6 uG)
  go_loopw [3,6,7] (fun bv iv _ wr=>∃(k:Nat) (sc:Sl),k≤D.entries.length∧iv=.int .i64 k∧∃M:List UInt8,Hid (M=N4++(EL.take k).flatten)∧bv=.slice sc.a M.length sc.cap∧dE 5 W wr sc M) (fun _ iv _ _=>D.entries.length-(intOf iv).toNat)
  case atStart=>exact⟨0,s6,Nat.zero_le _,rfl,N4,by simp[Hid],rfl,uG⟩
  case round=>
   obtain⟨k2,sd,hk2,rfl,M4,zC,rfl,uH⟩:=hrel
   have BD:=Lib.hid (show M4.length≤30100000 by have h1:=IQ.out;have h2:=OT.out;have h3:=zn EL k2;rw[zC.out,List.length_append];omega)
   obtain⟨hcc,aS,hrr⟩:=aY uH.b
   by_cases hlt2:k2<D.entries.length
   ·obtain⟨b,o,rr,ha,hrow,hat⟩:=HE.out.get k2 hlt2
    have hb:b<W.heap.size:=gG hrow
    have hki:(k2:Int)<(D.entries.length:Int):=by omega
    have hat':=hat.later uH.b
    go_wp2_with fail
    refine(alV _ _ _ hat' (lW.out.dK _ (List.getElem_mem hlt2))).mono ?_
    obtain⟨en,hen⟩:∃l,l=pF D.entries[k2]:=⟨_,rfl⟩
    rw[←hen]
    have hel:en.length≤416085:=by rw[hen];exact NY (lW.out.dK _ (List.getElem_mem hlt2))
    have HK2:=Lib.hid (show(EL.take (k2+1)).flatten=(EL.take k2).flatten++(bK en.length 4++en) by
     rw[xC (by rw[zB.out];exact hlt2)]
     congr 1
     have:EL[k2]'(by rw[zB.out];exact hlt2)=uF (pF D.entries[k2]):=by simp[EC.out,qo]
     rw[this,←hen]
     rfl)
    have HEN:=Lib.hid hel
    clear hen hel
    rintro e8 V8 ⟨s8,rfl,hb8,hd8⟩
    have YR:=uH.later hb8
    clear hcc aS hrr hrow hat hat'
    go_wp2_with fail
    refine(Ei en.length 4 _ (by decide)).mono ?_
    rintro e9 V9 ⟨s9,rfl,fH,hd9⟩
    have Lu:=hd9.out
    have hR9:=YR.later fH
    have HG:=Lib.hid (show ∀(x:World),V9.grownBy x sd.blk→BytesAt x s8.a en from fun x hx=>hd8 x fun j hj=>by
     have h1:=hj.1
     have h2:=hj.2
     refine(hx.block j (Nat.lt_of_lt_of_le h2 fH.size) (fun e=>?_)).trans (fH.block j h2)
     have:=(uH.own.base e.symm).2
     omega)
    obtain⟨M1,hM1⟩:∃N,N=M4++bK en.length 4:=⟨_,rfl⟩
    obtain⟨M2,hM2⟩:∃N,N=M1++en:=⟨_,rfl⟩
    have Ey:=Lib.hid (show M1.length=M4.length+4 by rw[hM1,List.length_append,gX])
    have OO:=Lib.hid (show M2.length=M4.length+4+en.length by rw[hM2,List.length_append,Ey.out])
    have Ez:=Lib.hid hM1
    have oV:=Lib.hid hM2
    clear hM1 hM2 hb8 fH YR hd9 hd8
    go_wp2_with (first|(at_builtin;refine alM (L:=M1) rfl _ _ _ rfl dZ b8 hR9 rfl rfl rfl rfl Lu Ez.out (by have:=Ey.out;have:=BD.out;omega) ?_;intro sx wx hRx hgx;have hDx:=HG.out wx hgx)|(at_builtin;refine iK (L:=M2) rfl _ _ _ rfl dZ b8 hRx rfl rfl rfl rfl hDx oV.out (by have:=OO.out;have:=BD.out;have:=HEN.out;omega) ?_;intro sy wy hRy))
    go_roundw
    case rel=>
     have HF:=Lib.hid (show M2=N4++(EL.take (k2+1)).flatten by rw[oV.out,Ez.out,zC.out,HK2.out,List.append_assoc,List.append_assoc])
     try rw[←ha]
     (repeat apply Exists.intro)
     exact⟨⟨k2+1,sy,by omega,by go_num,M2,HF.out,rfl,hRy⟩,rfl⟩
    case measure=>simp[intOf];omega
   have HFin:=Lib.hid (show M4=jd D by rw[zC.out,List.take_of_length_le (by rw[zB.out];omega),IP.out,OQ.out,Ew.out,EC.out,←HH.out];rfl)
   go_wp2_with fail
   go_ret
   rw[←HFin.out]
   exact(uH.Eh (by have:=BD.out;unfold lim;omega)).from HBW.out
end Go.Proofs.YtfieenjdcpjmgaaGreatDoor
