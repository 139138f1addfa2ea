/- A part of the proof. -/
import Derived.Test.YtibhckkjciflaaaGreatDoorA19
set_option maxRecDepth 100000
set_option maxHeartbeats 16000000
namespace Go.Proofs.YtibhckkjciflaaaGreatDoor
open Go.RowKit Go.WW
theorem ab1(v:Int)(w:World)(h0:0≤v):Calls Tryz.prog 112 #[.int .i64 v] w (aU w (qg v.toNat)):=by
 have:=abV v.toNat w
 rwa[Int.toNat_of_nonneg h0]at this
theorem ab2(r:aC)(d:Entry)(w:World)(he:iT w r d)(hf:yl d):Calls Tryz.prog 48 #[.agg (ay r d)] w (aU w (jy d)):=by
 have hB0:Below w.heap.size w (w.alloc (.cells (ay r d) 32)):=az (Below.refl _ _) _
 have lX:=he.later hB0
 have hT:=IW hf
 have HF:=Lib.hid (Nat.le_trans (IX hf) (by decide:416080≤1000000))
 have HK:=Lib.hid hf.keys.1
 have HH:=Lib.hid hf.history.1
 have hkn:=hf.keys.2
 have hhn:=hf.history.2
 have yF:(dE (d.keys.map iO)).length≤26000:=by
  have h1:=map_le (f:=iO) (m:=1605) (n:=16) (l:=d.keys) (fun k hk=>IU (hf.keys.1 k hk)) hf.keys.2
  have h2:=qh (d.keys.map iO)
  omega
 have yG:(dE (d.history.map dP)).length≤26000:=by
  have h1:=map_le (f:=dP) (m:=21) (n:=16) (l:=d.history) (fun b hb=>by have:=tN b;have:=hf.history.1 b hb;omega) hf.history.2
  have h2:=qh (d.history.map dP)
  omega
 have HT:=Lib.hid (show jy d=dE (bU 0 (mO d)) from rfl)
 have HB4:=Lib.hid yF
 have ab3:=Lib.hid yG
 have HBT:=Lib.hid hT
 have HFF:=Lib.hid hf
 rw[HT.out]
 obtain⟨amj,Jv⟩:∃x,x=dE (bU 0 (mO d)):=⟨_,rfl⟩
 have HG:=Lib.hid Jv
 rw[←Jv]
 clear yF yG hT hf Jv
 go_enter Tryz.func48,Tryz.ntmps48
 go_wp2_with fail
 go_loopw [3,5] (fun bv iv wr=>∃(n:Nat) (so:Sl) (L:List (List UInt8)),n≤d.keys.length∧iv=.int .i64 n∧bv=.slice so.a L.length so.cap∧fE 41 (w.alloc (.cells (ay r d) 32)) wr so L∧Hid (L=(d.keys.take n).map iO)) (fun _ i _=>d.keys.length-(intOf i).toNat)
 case atStart=>exact⟨0,⟨none,0⟩,[],Nat.zero_le _,rfl,rfl,fE.none _ (Below.refl _ _),rfl⟩
 case round=>
  obtain⟨n,so,L,hn,rfl,rfl,hH,HL⟩:=hrel
  obtain⟨hcc,ax,hrr⟩:=aK hH.b
  have hwl:w.heap.size<wr.heap.size:=by have:=hH.b.size;simp at this;omega
  by_cases hlt:n<d.keys.length
  ·obtain⟨b,o,t,ha,hrow,hp⟩:=(lX.keys.later hH.b).get n hlt
   have hbb:b<wr.heap.size:=kT hrow
   obtain⟨L',hL'⟩:∃L',L'=(d.keys.take (n+1)).map iO:=⟨_,rfl⟩
   obtain⟨x,hx⟩:∃x,x=iO d.keys[n]:=⟨_,rfl⟩
   have HA:=Lib.hid (show L'=L++[x] by rw[hL',hx,rE _ hlt HL.out])
   have hLn:L'.length≤1000000:=by rw[hL',List.length_map,List.length_take];omega
   have jC:=Lib.hid hL'
   have HX:=Lib.hid hx
   clear hL' hx
   go_wp2_with fail
   refine(abZ t d.keys[n] _ hp (HK.out _ (List.getElem_mem hlt))).mono ?_
   rw[←HX.out]
   rintro e w2 ⟨s2,rfl,hb2,hd2⟩
   clear hcc ax hrr
   go_wp2_with (at_builtin;refine lg (L:=L') rfl _ _ _ rfl jM hH hb2 hd2 rfl rfl rfl rfl HA.out hLn ?_;intro s3 w3 hH3)
   go_roundw
   case rel=>exact⟨n+1,s3,L',by omega,by go_num,rfl,hH3,jC.out⟩
   case measure=>simp[intOf];omega
  ·have HE:=Lib.hid (show L=d.keys.map iO by rw[HL.out,rF _ hlt])
   have HLn:=Lib.hid (show(L.length:Int)=d.keys.length by rw[HE.out,List.length_map])
   have yE:L.length≤16:=by have:=HLn.out;omega
   have hh1:=(hH.hist (by unfold lim;omega)).out
   have hb1:=hH.b
   have Jw:=Lib.hid (show bW (d.keys.map iO)=bW L by rw[HE.out])
   have A8:=Lib.hid (Jr L)
   have yF:=HB4.out
   rw[←HE.out]at yF
   have HQ4:=Lib.hid yF
   clear yF
   clear hH HL
   go_wp2_with fail
   clear hcc ax hrr
   go_loopw [4,6] (fun bv iv wx=>∃(n:Nat) (so:Sl) (L:List (List UInt8)),n≤d.history.length∧iv=.int .i64 n∧bv=.slice so.a L.length so.cap∧fE 41 wr wx so L∧Hid (L=(d.history.take n).map dP)) (fun _ i _=>d.history.length-(intOf i).toNat)
   case atStart=>exact⟨0,⟨none,0⟩,[],Nat.zero_le _,rfl,rfl,fE.none _ (Below.refl _ _),rfl⟩
   case round=>
    obtain⟨n,so2,L2,hn,rfl,rfl,hH,HL⟩:=hrel
    have hb2:=af hb1 hH.b
    obtain⟨hcc,ax,hrr⟩:=aK hb2
    have aml:=Nat.lt_of_lt_of_le hwl hH.b.size
    by_cases hlt:n<d.history.length
    ·obtain⟨b,o,t,ha,hck,hp⟩:=(lX.history.later hb2).get n hlt
     have hbb:=World.block_lt_of_cell? _ _ hck
     obtain⟨L',hL'⟩:∃L',L'=(d.history.take (n+1)).map dP:=⟨_,rfl⟩
     obtain⟨x,hx⟩:∃x,x=dP d.history[n]:=⟨_,rfl⟩
     have HA:=Lib.hid (show L'=L2++[x] by rw[hL',hx,rE _ hlt HL.out])
     have hLn:L'.length≤1000000:=by rw[hL',List.length_map,List.length_take];omega
     have jC:=Lib.hid hL'
     have HX:=Lib.hid hx
     have h16:=Lib.hid (HH.out _ (List.getElem_mem hlt))
     clear hL' hx
     go_wp2_with fail
     refine(Jo _ _ d.history[n] _ hp (by rw[h16.out];decide)).mono ?_
     rw[←HX.out]
     rintro e w2 ⟨s2,rfl,hbc,hd2⟩
     clear hcc ax hrr
     go_wp2_with (at_builtin;refine lg (L:=L') rfl _ _ _ rfl jM hH hbc hd2 rfl rfl rfl rfl HA.out hLn ?_;intro s3 w3 hH3)
     go_roundw
     case rel=>exact⟨n+1,s3,L',by omega,by go_num,rfl,hH3,jC.out⟩
     case measure=>simp[intOf];omega
    ·have HE2:=Lib.hid (show L2=d.history.map dP by rw[HL.out,rF _ hlt])
     have ab7:=Lib.hid (show(L2.length:Int)=d.history.length by rw[HE2.out,List.length_map])
     have amm:L2.length≤16:=by have:=ab7.out;omega
     have hh2:=(hH.hist (by unfold lim;omega)).out
     have ab8:=hh1.later hH.b
     have EC:=lX.later hb2
     have Ju:=af hB0 hb2
     have Jy:=Lib.hid (show bW (d.history.map dP)=bW L2 by rw[HE2.out])
     have ab9:=Lib.hid (Jr L2)
     have yG:=ab3.out
     rw[←HE2.out]at yG
     have aca:=Lib.hid yG
     have hT:=HBT.out
     have hf:=HFF.out
     clear yG
     clear hH HL hh1 hb1 lX
     obtain⟨f1,f2,f3,f4,-,f6,f7,f8,f9,f10,f11,f12,f13,f14,f15,-⟩:=hf
     have c5:=Lib.hid (Jt d.dn)
     simp only[mO,List.mem_cons,List.not_mem_nil,or_false,forall_eq_or_imp,forall_eq]at hT
     obtain⟨g0,g1,g2,g3,g4,g5,g6,g7,g8,g9,g10,g11,g12,g13,g14,g15⟩:=hT
     simp only[Jw.out,Jy.out]at g4 g15
     have hfl:=HF.out
     simp only[mO,bU,Jw.out,Jy.out]at hfl
     have Ba:=Lib.hid hfl
     have G0:=Lib.hid g0;have G1:=Lib.hid g1;have G2:=Lib.hid g2;have G3:=Lib.hid g3;have G4:=Lib.hid g4;have G5:=Lib.hid g5;have G6:=Lib.hid g6;have G7:=Lib.hid g7
     have G8:=Lib.hid g8;have G9:=Lib.hid g9;have G10:=Lib.hid g10;have G11:=Lib.hid g11;have G12:=Lib.hid g12;have G13:=Lib.hid g13;have G14:=Lib.hid g14;have G15:=Lib.hid g15
     clear hfl g0 g1 g2 g3 g4 g5 g6 g7 g8 g9 g10 g11 g12 g13 g14 g15
     go_wp2_with fail
     refine jr (Below.refl _ _) (by kernel_rfl) (by kernel_rfl) ?_
     intro v0 hv0
     have hP0:Ps _ v0 []:=⟨hv0,by simp⟩
     repeat (first|(refine ah (by rfl) ?_)|(refine ai (by rfl) (by rfl) (fun K hK=>?_);go_big_quiet_op;refine hK _ ?_;clear hK K))
     refine au (by rfl) (by rfl) (fun K hK=>?_)
     go_wp2_with fail
     refine(Eu _ _ _ (EC.name.later hP0.b) f1).mono ?_
     rintro e v1 ⟨s1,rfl,hb1,hd1⟩
     have hP1:=hP0.mid hb1
     clear hP0 hb1
     refine hK _ _ (ak hP1.b) ?_
     clear hK K
     repeat (first|(refine ah (by rfl) ?_)|(refine ai (by rfl) (by rfl) (fun K hK=>?_);go_big_quiet_op;refine hK _ ?_;clear hK K))
     refine au (by rfl) (by rfl) (fun K hK=>?_)
     go_wp2_with fail
     refine(eU 0 0 _ _ _ _ rfl (by decide) hd1.out (Nat.le_trans G0.out (by decide))).mono ?_
     rintro e v2 ⟨s2,rfl,hb2,hd2⟩
     have hP2:=hP1.add hb2 hd2.out
     clear hP1 hb2 hd1 hd2
     refine hK _ _ (ak hP2.b) ?_
     clear hK K
     repeat (first|(refine ah (by rfl) ?_)|(refine ai (by rfl) (by rfl) (fun K hK=>?_);go_big_quiet_op;refine hK _ ?_;clear hK K))
     refine au (by rfl) (by rfl) (fun K hK=>?_)
     go_wp2_with fail
     refine(Js _ _ _ _ (EC.aliases.later hP2.b) f2).mono ?_
     rintro e v3 ⟨s3,rfl,hb3,hd3⟩
     have hP3:=hP2.mid hb3
     clear hP2 hb3
     refine hK _ _ (ak hP3.b) ?_
     clear hK K
     repeat (first|(refine ah (by rfl) ?_)|(refine ai (by rfl) (by rfl) (fun K hK=>?_);go_big_quiet_op;refine hK _ ?_;clear hK K))
     refine au (by rfl) (by rfl) (fun K hK=>?_)
     go_wp2_with fail
     refine(eU 1 1 _ _ _ _ rfl (by decide) hd3.out (Nat.le_trans G1.out (by decide))).mono ?_
     rintro e v4 ⟨s4,rfl,hb4,hd4⟩
     have fK:=hP3.add hb4 hd4.out
     clear hP3 hb4 hd3 hd4
     refine hK _ _ (ak fK.b) ?_
     clear hK K
     repeat (first|(refine ah (by rfl) ?_)|(refine ai (by rfl) (by rfl) (fun K hK=>?_);go_big_quiet_op;refine hK _ ?_;clear hK K))
     refine au (by rfl) (by rfl) (fun K hK=>?_)
     go_wp2_with fail
     refine(ab1 _ _ f3.1).mono ?_
     rintro e v5 ⟨s5,rfl,hb5,hd5⟩
     have fZ:=fK.mid hb5
     clear fK hb5
     refine hK _ _ (ak fZ.b) ?_
     clear hK K
     repeat (first|(refine ah (by rfl) ?_)|(refine ai (by rfl) (by rfl) (fun K hK=>?_);go_big_quiet_op;refine hK _ ?_;clear hK K))
     refine au (by rfl) (by rfl) (fun K hK=>?_)
     go_wp2_with fail
     refine(eU 2 2 _ _ _ _ rfl (by decide) hd5.out (Nat.le_trans G2.out (by decide))).mono ?_
     rintro e v6 ⟨s6,rfl,hb6,hd6⟩
     have jW:=fZ.add hb6 hd6.out
     clear fZ hb6 hd5 hd6
     refine hK _ _ (ak jW.b) ?_
     clear hK K
     repeat (first|(refine ah (by rfl) ?_)|(refine ai (by rfl) (by rfl) (fun K hK=>?_);go_big_quiet_op;refine hK _ ?_;clear hK K))
     refine au (by rfl) (by rfl) (fun K hK=>?_)
     go_wp2_with fail
     refine(Ey _ _ f4.1 (by omega)).mono ?_
     rintro e v7 ⟨s7,rfl,hb7,hd7⟩
     have lV:=jW.mid hb7
     clear jW hb7
     refine hK _ _ (ak lV.b) ?_
     clear hK K
     repeat (first|(refine ah (by rfl) ?_)|(refine ai (by rfl) (by rfl) (fun K hK=>?_);go_big_quiet_op;refine hK _ ?_;clear hK K))
     refine au (by rfl) (by rfl) (fun K hK=>?_)
     go_wp2_with fail
     refine(eU 3 3 _ _ _ _ rfl (by decide) hd7.out (Nat.le_trans G3.out (by decide))).mono ?_
     rintro e v8 ⟨s8,rfl,hb8,hd8⟩
     have jX:=lV.add hb8 hd8.out
     clear lV hb8 hd7 hd8
     refine hK _ _ (ak jX.b) ?_
     clear hK K
     repeat (first|(refine ah (by rfl) ?_)|(refine ai (by rfl) (by rfl) (fun K hK=>?_);go_big_quiet_op;refine hK _ ?_;clear hK K))
     refine au (by rfl) (by rfl) (fun K hK=>?_)
     go_wp2_with fail
     refine(lU _ _ L _ (ab8.later jX.b) (by have h9:=mJ 48 L.flatten;have:(dE L).length=(tlv 48 L.flatten).length:=rfl;have:=HQ4.out;omega)).mono ?_
     rintro e v9 ⟨s9,rfl,aZ,hd9⟩
     have uy:=jX.mid aZ
     clear jX aZ
     refine hK _ _ (ak uy.b) ?_
     clear hK K
     repeat (first|(refine ah (by rfl) ?_)|(refine ai (by rfl) (by rfl) (fun K hK=>?_);go_big_quiet_op;refine hK _ ?_;clear hK K))
     refine au (by rfl) (by rfl) (fun K hK=>?_)
     go_wp2_with fail
     refine(rC _ s9 _ (bW L) _ hd9 A8.out).mono ?_
     rintro e _ ⟨s10,rfl,rfl,hd10⟩
     clear hd9
     refine hK _ _ (ak uy.b) ?_
     clear hK K
     repeat (first|(refine ah (by rfl) ?_)|(refine ai (by rfl) (by rfl) (fun K hK=>?_);go_big_quiet_op;refine hK _ ?_;clear hK K))
     refine au (by rfl) (by rfl) (fun K hK=>?_)
     go_wp2_with fail
     refine(eU 4 4 _ _ _ _ rfl (by decide) hd10.out (Nat.le_trans G4.out (by decide))).mono ?_
     rintro e v11 ⟨s11,rfl,uq,hd11⟩
     have pG:=uy.add uq hd11.out
     clear uy uq hd10 hd11
     refine hK _ _ (ak pG.b) ?_
     clear hK K
     repeat (first|(refine ah (by rfl) ?_)|(refine ai (by rfl) (by rfl) (fun K hK=>?_);go_big_quiet_op;refine hK _ ?_;clear hK K))
     refine au (by rfl) (by rfl) (fun K hK=>?_)
     go_wp2_with fail
     refine(yD _ _ (Nat.le_trans f6 (by decide))).mono ?_
     rintro e v12 ⟨s12,rfl,uu,uw⟩
     have lW:=pG.mid uu
     clear pG uu
     refine hK _ _ (ak lW.b) ?_
     clear hK K
     repeat (first|(refine ah (by rfl) ?_)|(refine ai (by rfl) (by rfl) (fun K hK=>?_);go_big_quiet_op;refine hK _ ?_;clear hK K))
     refine au (by rfl) (by rfl) (fun K hK=>?_)
     go_wp2_with fail
     refine(rC _ s12 _ (jc d.dn) _ uw c5.out).mono ?_
     rintro e _ ⟨s13,rfl,rfl,Bc⟩
     clear uw
     refine hK _ _ (ak lW.b) ?_
     clear hK K
     repeat (first|(refine ah (by rfl) ?_)|(refine ai (by rfl) (by rfl) (fun K hK=>?_);go_big_quiet_op;refine hK _ ?_;clear hK K))
     refine au (by rfl) (by rfl) (fun K hK=>?_)
     go_wp2_with fail
     refine(eU 5 5 _ _ _ _ rfl (by decide) Bc.out (Nat.le_trans G5.out (by decide))).mono ?_
     rintro e v14 ⟨s14,rfl,Bd,Be⟩
     have uz:=lW.add Bd Be.out
     clear lW Bd Bc Be
     refine hK _ _ (ak uz.b) ?_
     clear hK K
     repeat (first|(refine ah (by rfl) ?_)|(refine ai (by rfl) (by rfl) (fun K hK=>?_);go_big_quiet_op;refine hK _ ?_;clear hK K))
     refine au (by rfl) (by rfl) (fun K hK=>?_)
     go_wp2_with fail
     refine(Ez _ _ f7.1).mono ?_
     rintro e v15 ⟨s15,rfl,Bf,Bg⟩
     have uA:=uz.mid Bf
     clear uz Bf
     refine hK _ _ (ak uA.b) ?_
     clear hK K
     repeat (first|(refine ah (by rfl) ?_)|(refine ai (by rfl) (by rfl) (fun K hK=>?_);go_big_quiet_op;refine hK _ ?_;clear hK K))
     refine au (by rfl) (by rfl) (fun K hK=>?_)
     go_wp2_with fail
     refine(eU 6 6 _ _ _ _ rfl (by decide) Bg.out (Nat.le_trans G6.out (by decide))).mono ?_
     rintro e v16 ⟨s16,rfl,hb16,Bh⟩
     have qw:=uA.add hb16 Bh.out
     clear uA hb16 Bg Bh
     refine hK _ _ (ak qw.b) ?_
     clear hK K
     repeat (first|(refine ah (by rfl) ?_)|(refine ai (by rfl) (by rfl) (fun K hK=>?_);go_big_quiet_op;refine hK _ ?_;clear hK K))
     refine au (by rfl) (by rfl) (fun K hK=>?_)
     go_wp2_with fail
     refine(Ez _ _ f8.1).mono ?_
     rintro e v17 ⟨s17,rfl,Qg,Qh⟩
     have Jz:=qw.mid Qg
     clear qw Qg
     refine hK _ _ (ak Jz.b) ?_
     clear hK K
     repeat (first|(refine ah (by rfl) ?_)|(refine ai (by rfl) (by rfl) (fun K hK=>?_);go_big_quiet_op;refine hK _ ?_;clear hK K))
     refine au (by rfl) (by rfl) (fun K hK=>?_)
     go_wp2_with fail
     refine(eU 7 7 _ _ _ _ rfl (by decide) Qh.out (Nat.le_trans G7.out (by decide))).mono ?_
     rintro e v18 ⟨s18,rfl,Qi,Qj⟩
     have JA:=Jz.add Qi Qj.out
     clear Jz Qi Qh Qj
     refine hK _ _ (ak JA.b) ?_
     clear hK K
     repeat (first|(refine ah (by rfl) ?_)|(refine ai (by rfl) (by rfl) (fun K hK=>?_);go_big_quiet_op;refine hK _ ?_;clear hK K))
     refine au (by rfl) (by rfl) (fun K hK=>?_)
     go_wp2_with fail
     refine(Ey _ _ f9.1 (by omega)).mono ?_
     rintro e v19 ⟨s19,rfl,Qk,Ql⟩
     have JB:=JA.mid Qk
     clear JA Qk
     refine hK _ _ (ak JB.b) ?_
     clear hK K
     repeat (first|(refine ah (by rfl) ?_)|(refine ai (by rfl) (by rfl) (fun K hK=>?_);go_big_quiet_op;refine hK _ ?_;clear hK K))
     refine au (by rfl) (by rfl) (fun K hK=>?_)
     go_wp2_with fail
     refine(eU 8 8 _ _ _ _ rfl (by decide) Ql.out (Nat.le_trans G8.out (by decide))).mono ?_
     rintro e v20 ⟨s20,rfl,Qm,Qn⟩
     have JC:=JB.add Qm Qn.out
     clear JB Qm Ql Qn
     refine hK _ _ (ak JC.b) ?_
     clear hK K
     repeat (first|(refine ah (by rfl) ?_)|(refine ai (by rfl) (by rfl) (fun K hK=>?_);go_big_quiet_op;refine hK _ ?_;clear hK K))
     refine au (by rfl) (by rfl) (fun K hK=>?_)
     go_wp2_with fail
     refine(Ey _ _ f10.1 (by omega)).mono ?_
     rintro e v21 ⟨s21,rfl,Qo,Qp⟩
     have JD:=JC.mid Qo
     clear JC Qo
     refine hK _ _ (ak JD.b) ?_
     clear hK K
     repeat (first|(refine ah (by rfl) ?_)|(refine ai (by rfl) (by rfl) (fun K hK=>?_);go_big_quiet_op;refine hK _ ?_;clear hK K))
     refine au (by rfl) (by rfl) (fun K hK=>?_)
     go_wp2_with fail
     refine(eU 9 9 _ _ _ _ rfl (by decide) Qp.out (Nat.le_trans G9.out (by decide))).mono ?_
     rintro e v22 ⟨s22,rfl,Qq,Qr⟩
     have JE:=JD.add Qq Qr.out
     clear JD Qq Qp Qr
     refine hK _ _ (ak JE.b) ?_
     clear hK K
     repeat (first|(refine ah (by rfl) ?_)|(refine ai (by rfl) (by rfl) (fun K hK=>?_);go_big_quiet_op;refine hK _ ?_;clear hK K))
     refine au (by rfl) (by rfl) (fun K hK=>?_)
     go_wp2_with fail
     refine(Ey _ _ f11.1 (by omega)).mono ?_
     rintro e v23 ⟨s23,rfl,Qu,Qv⟩
     have JF:=JE.mid Qu
     clear JE Qu
     refine hK _ _ (ak JF.b) ?_
     clear hK K
     repeat (first|(refine ah (by rfl) ?_)|(refine ai (by rfl) (by rfl) (fun K hK=>?_);go_big_quiet_op;refine hK _ ?_;clear hK K))
     refine au (by rfl) (by rfl) (fun K hK=>?_)
     go_wp2_with fail
     refine(eU 10 10 _ _ _ _ rfl (by decide) Qv.out (Nat.le_trans G10.out (by decide))).mono ?_
     rintro e v24 ⟨s24,rfl,Qw,hd24⟩
     have JG:=JF.add Qw hd24.out
     clear JF Qw Qv hd24
     refine hK _ _ (ak JG.b) ?_
     clear hK K
     repeat (first|(refine ah (by rfl) ?_)|(refine ai (by rfl) (by rfl) (fun K hK=>?_);go_big_quiet_op;refine hK _ ?_;clear hK K))
     refine au (by rfl) (by rfl) (fun K hK=>?_)
     go_wp2_with fail
     refine(Ez _ _ f12.1).mono ?_
     rintro e v25 ⟨s25,rfl,Qx,hd25⟩
     have JH:=JG.mid Qx
     clear JG Qx
     refine hK _ _ (ak JH.b) ?_
     clear hK K
     repeat (first|(refine ah (by rfl) ?_)|(refine ai (by rfl) (by rfl) (fun K hK=>?_);go_big_quiet_op;refine hK _ ?_;clear hK K))
     refine au (by rfl) (by rfl) (fun K hK=>?_)
     go_wp2_with fail
     refine(eU 11 11 _ _ _ _ rfl (by decide) hd25.out (Nat.le_trans G11.out (by decide))).mono ?_
     rintro e v26 ⟨s26,rfl,Qy,Qz⟩
     have JI:=JH.add Qy Qz.out
     clear JH Qy hd25 Qz
     refine hK _ _ (ak JI.b) ?_
     clear hK K
     repeat (first|(refine ah (by rfl) ?_)|(refine ai (by rfl) (by rfl) (fun K hK=>?_);go_big_quiet_op;refine hK _ ?_;clear hK K))
     refine au (by rfl) (by rfl) (fun K hK=>?_)
     go_wp2_with fail
     refine(Ez _ _ f13.1).mono ?_
     rintro e v27 ⟨s27,rfl,QB,hd27⟩
     have JJ:=JI.mid QB
     clear JI QB
     refine hK _ _ (ak JJ.b) ?_
     clear hK K
     repeat (first|(refine ah (by rfl) ?_)|(refine ai (by rfl) (by rfl) (fun K hK=>?_);go_big_quiet_op;refine hK _ ?_;clear hK K))
     refine au (by rfl) (by rfl) (fun K hK=>?_)
     go_wp2_with fail
     refine(eU 12 12 _ _ _ _ rfl (by decide) hd27.out (Nat.le_trans G12.out (by decide))).mono ?_
     rintro e v28 ⟨s28,rfl,QC,hd28⟩
     have ED:=JJ.add QC hd28.out
     clear JJ QC hd27 hd28
     refine hK _ _ (ak ED.b) ?_
     clear hK K
     repeat (first|(refine ah (by rfl) ?_)|(refine ai (by rfl) (by rfl) (fun K hK=>?_);go_big_quiet_op;refine hK _ ?_;clear hK K))
     refine au (by rfl) (by rfl) (fun K hK=>?_)
     go_wp2_with fail
     refine(Js _ _ _ _ (EC.targets.later ED.b) f14).mono ?_
     rintro e v29 ⟨s29,rfl,QE,hd29⟩
     have JK:=ED.mid QE
     clear ED QE
     refine hK _ _ (ak JK.b) ?_
     clear hK K
     repeat (first|(refine ah (by rfl) ?_)|(refine ai (by rfl) (by rfl) (fun K hK=>?_);go_big_quiet_op;refine hK _ ?_;clear hK K))
     refine au (by rfl) (by rfl) (fun K hK=>?_)
     go_wp2_with fail
     refine(eU 13 13 _ _ _ _ rfl (by decide) hd29.out (Nat.le_trans G13.out (by decide))).mono ?_
     rintro e v30 ⟨s30,rfl,QF,QG⟩
     have EE:=JK.add QF QG.out
     clear JK QF hd29 QG
     refine hK _ _ (ak EE.b) ?_
     clear hK K
     repeat (first|(refine ah (by rfl) ?_)|(refine ai (by rfl) (by rfl) (fun K hK=>?_);go_big_quiet_op;refine hK _ ?_;clear hK K))
     refine au (by rfl) (by rfl) (fun K hK=>?_)
     go_wp2_with fail
     refine(Js _ _ _ _ (EC.aP.later EE.b) f15).mono ?_
     rintro e v31 ⟨s31,rfl,QH,hd31⟩
     have JL:=EE.mid QH
     clear EE QH
     refine hK _ _ (ak JL.b) ?_
     clear hK K
     repeat (first|(refine ah (by rfl) ?_)|(refine ai (by rfl) (by rfl) (fun K hK=>?_);go_big_quiet_op;refine hK _ ?_;clear hK K))
     refine au (by rfl) (by rfl) (fun K hK=>?_)
     go_wp2_with fail
     refine(eU 14 14 _ _ _ _ rfl (by decide) hd31.out (Nat.le_trans G14.out (by decide))).mono ?_
     rintro e v32 ⟨s32,rfl,QI,hd32⟩
     have EF:=JL.add QI hd32.out
     clear JL QI hd31 hd32
     refine hK _ _ (ak EF.b) ?_
     clear hK K
     repeat (first|(refine ah (by rfl) ?_)|(refine ai (by rfl) (by rfl) (fun K hK=>?_);go_big_quiet_op;refine hK _ ?_;clear hK K))
     refine au (by rfl) (by rfl) (fun K hK=>?_)
     go_wp2_with fail
     refine(lU _ _ L2 _ (hh2.later EF.b) (by have h9:=mJ 48 L2.flatten;have:(dE L2).length=(tlv 48 L2.flatten).length:=rfl;have:=aca.out;omega)).mono ?_
     rintro e v33 ⟨s33,rfl,QJ,QK⟩
     have EG:=EF.mid QJ
     clear EF QJ
     refine hK _ _ (ak EG.b) ?_
     clear hK K
     repeat (first|(refine ah (by rfl) ?_)|(refine ai (by rfl) (by rfl) (fun K hK=>?_);go_big_quiet_op;refine hK _ ?_;clear hK K))
     refine au (by rfl) (by rfl) (fun K hK=>?_)
     go_wp2_with fail
     refine(rC _ s33 _ (bW L2) _ QK ab9.out).mono ?_
     rintro e _ ⟨s34,rfl,rfl,hd34⟩
     clear QK
     refine hK _ _ (ak EG.b) ?_
     clear hK K
     repeat (first|(refine ah (by rfl) ?_)|(refine ai (by rfl) (by rfl) (fun K hK=>?_);go_big_quiet_op;refine hK _ ?_;clear hK K))
     refine au (by rfl) (by rfl) (fun K hK=>?_)
     go_wp2_with fail
     refine(eU 15 15 _ _ _ _ rfl (by decide) hd34.out (Nat.le_trans G15.out (by decide))).mono ?_
     rintro e v35 ⟨s35,rfl,QL,QM⟩
     have yH:=EG.add QL QM.out
     clear EG QL hd34 QM
     refine hK _ _ (ak yH.b) ?_
     clear hK K
     repeat (first|(refine ah (by rfl) ?_)|(refine ai (by rfl) (by rfl) (fun K hK=>?_);go_big_quiet_op;refine hK _ ?_;clear hK K))
     refine au (by rfl) (by rfl) (fun K hK=>?_)
     go_wp2_with fail
     refine hK _ _ (ak (az yH.b _)) ?_
     clear hK K
     repeat (first|(refine ah (by rfl) ?_)|(refine ai (by rfl) (by rfl) (fun K hK=>?_);go_big_quiet_op;refine hK _ ?_;clear hK K))
     refine au (by rfl) (by rfl) (fun K hK=>?_)
     go_wp2_with fail
     refine(lU _ _ [aB 0 (bP d.name),aB 1 (bW (d.aliases.map bP)),aB 2 (qg d.attrs.toNat),aB 3 (fC d.dF.toNat),aB 4 (bW L),aB 5 (jc d.dn),aB 6 (iK d.fQ.toNat),aB 7 (iK d.fU.toNat),aB 8 (fC d.fF.toNat),aB 9 (fC d.fG.toNat),aB 10 (fC d.fails.toNat),aB 11 (iK d.eP.toNat),aB 12 (iK d.gq.toNat),aB 13 (bW (d.targets.map bP)),aB 14 (bW (d.aP.map bP)),aB 15 (bW L2)] _ (dH.lit _ rfl rfl yH.at_ (by simp[lim])) Ba.out).mono ?_
     rintro e vz ⟨sz,rfl,hbz,hdz⟩
     have HB:=Lib.hid (aU.from (W:=w) ⟨sz,rfl,hbz,hdz⟩ (af Ju (az yH.b _)))
     have pI:=af (az yH.b _) hbz
     clear yH hdz hbz
     refine hK _ _ (ak pI) ?_
     clear hK K
     repeat (first|(refine ah (by rfl) ?_)|(refine ai (by rfl) (by rfl) (fun K hK=>?_);go_big_quiet_op;refine hK _ ?_;clear hK K))
     refine iH ?_
     go_wp2_with fail
     go_ret
     rw[HG.out]
     simp only[mO,bU,Jw.out,Jy.out]
     exact HB.out
end Go.Proofs.YtibhckkjciflaaaGreatDoor
namespace Go.WW
open Go.RowKit
theorem pJ{w:World}{b:Nat}{c:Array Value}{t:TypeId}(h:w.heap[b]?=some (.cells c t)):(∀o,w.cell? ⟨b,o,none⟩=c[o]?)∧(∀o,w.frozen? ⟨b,o,none⟩=false)∧b<w.heap.size:=
 ⟨fun o=>cell_of_row w b o c t _ h,fun o=>frozen_of_row w b o c t h,(Array.getElem?_eq_some_iff.1 h).1⟩
theorem JM{n g o:Nat}{w wr:World}{v:Value}(h:Below n w wr)(hg:n≤g):Below n w (wr.setCell ⟨g,o,none⟩ v):=
 ⟨h.os,h.tape,h.output,by have:=h.size;simpa[World.setCell]using this,fun k hk=>(Below.heap_setCell wr ⟨g,o,none⟩ v k (show k≠g by omega)).trans (h.block k hk)⟩
def oL(v n k:Nat):Array Value:=((List.range n).map fun j=>if n≤j+k then Value.int .u8 ((ed v n)[j]?.getD 0).toNat else Value.int .u8 0).toArray
theorem EH(v n k:Nat):(oL v n k).size=n:=by simp[oL]
theorem Bi(v n k j:Nat)(h:j<n):(oL v n k)[j]?=some (if n≤j+k then Value.int .u8 ((ed v n)[j]?.getD 0).toNat else Value.int .u8 0):=by
 simp[oL,h]
theorem acj(v n:Nat):oL v n 0=(List.replicate n (Value.int .u8 0)).toArray:=by
 apply Array.ext_getElem?
 intro j
 by_cases h:j<n
 ·rw[Bi v n 0 j h,if_neg (by omega)];simp[h]
 ·rw[Array.getElem?_eq_none (by rw[EH];omega),Array.getElem?_eq_none (by simp;omega)]
theorem ack(v n k:Nat)(h:k<n){c:UInt8}(hc:c=UInt8.ofNat (v / 256 ^ k)):(oL v n k).setIfInBounds (n-1-k) (Value.int .u8 c.toNat)=oL v n (k+1):=by
 apply Array.ext_getElem?
 intro j
 by_cases hj:j<n
 ·rw[Array.getElem?_setIfInBounds,EH,Bi v n k j hj,Bi v n (k+1) j hj]
  by_cases he:n-1-k=j
  ·subst he
   rw[if_pos rfl,if_pos (by omega),if_pos (by omega),Io _ _ _ (by omega),show n-1-(n-1-k)=k by omega,←hc]
   rfl
  ·rw[if_neg he]
   by_cases h2:n≤j+k
   ·rw[if_pos h2,if_pos (by omega)]
   ·rw[if_neg h2,if_neg (by omega)]
 ·rw[Array.getElem?_eq_none (by rw[Array.size_setIfInBounds,EH];omega),Array.getElem?_eq_none (by rw[EH];omega)]
theorem QN{w:World}{g:Nat}{t:TypeId}{v n:Nat}(h:w.heap[g]?=some (.cells (oL v n n) t))(hn:n≤8):BytesAt w (some ⟨g,0,none⟩) (ed v n):=by
 refine⟨by rw[jS];unfold lim;omega,fun j hj=>?_⟩
 rw[jS]at hj
 refine⟨g,0,_,rfl,?_,(ed v n)[j]'(by rw[jS];exact hj),List.getElem?_eq_getElem _,rfl⟩
 rw[cell_of_row _ _ _ _ _ _ h,Nat.zero_add,Bi v n n j hj,if_pos (by omega),List.getElem?_eq_getElem (by rw[jS];exact hj)]
 rfl
end Go.WW
namespace Go.Proofs.YtibhckkjciflaaaGreatDoor
open Go.RowKit Go.WW
theorem mkNum(v n:Nat)(h1:1≤n)(hn:n≤8)(w:World):∃V,(Instr.makeSlice 41 (.int .i64 n) (.int .i64 n)).run Tryz.prog w=.ok (.slice (some ⟨w.heap.size,0,none⟩) n n) V∧V.heap[w.heap.size]?=some (.cells (oL v n 0) 5)∧V.heap.size=w.heap.size+1∧Below w.heap.size w V:=by
 refine⟨w.alloc (.cells (List.replicate n (.int .u8 0)).toArray 5),?_,by rw[acj];exact World.alloc_heap_new _ _,by simp,az (Below.refl _ _) _⟩
 rcases(show n=1∨n=2∨n=3∨n=4∨n=5∨n=6∨n=7∨n=8 by omega)with rfl|rfl|rfl|rfl|rfl|rfl|rfl|rfl<;>kernel_rfl
theorem QO(v n:Nat)(w:World)(h1:1≤n)(hn:n≤8):Calls Tryz.prog 150 #[.int .i64 v,.int .i64 n] w (aU w (ed v n)):=by
 obtain⟨V,hmk,hV,hVs,hVb⟩:=mkNum v n h1 hn w
 go_enter Tryz.func150,Tryz.ntmps150
 go_wp2_with fail
 obtain⟨g,hg⟩:∃g,g=w.heap.size:=⟨_,rfl⟩
 have HG:=Lib.hid hg
 rw[←hg]at hV ⊢
 clear hmk hg
 go_loopw [11] (fun iv wr=>∃k:Nat,k≤n∧iv=.int .i64 k∧wr.heap[g]?=some (.cells (oL v n k) 5)∧Hid (Below w.heap.size w wr)) (fun iv _=>n-(intOf iv).toNat)
 case atStart=>exact⟨0,Nat.zero_le _,rfl,hV,hVb⟩
 case round=>
  obtain⟨k,hk,rfl,hW,hB⟩:=hrel
  by_cases hlt:k<n
  ·obtain⟨j,hj⟩:∃j:Nat,j=n-1-k:=⟨_,rfl⟩
   have hij:(n:Int)-1-k=j:=by omega
   obtain⟨hc,hf,hl⟩:=pJ hW
   have hcj:wr.cell? ⟨g,j,none⟩=some (oL v n k)[j]!:=by rw[hc,Bi _ _ _ _ (by omega)];simp[oL,show j<n by omega]
   have hfj:=hf j
   obtain⟨c,hc'⟩:∃c,c=UInt8.ofNat (v / 256 ^ k):=⟨_,rfl⟩
   have HS:=Lib.hid (abH v k)
   rw[←hc']at HS
   have HC:=Lib.hid hc'
   have HJ:=Lib.hid hj
   have hjn:j<n:=by omega
   have HW:=Lib.hid hW
   clear hc hf hc' hj hW
   go_wp2_with fail
   go_roundw
   case rel=>
    refine⟨k+1,by omega,by go_num,?_,JM hB.out (by rw[HG.out];exact Nat.le_refl _)⟩
    rw[HS.out,jA _ HW.out,HJ.out,ack v n k hlt HC.out]
   case measure=>simp[intOf];omega
  ·obtain rfl:k=n:=by omega
   have HB:=Lib.hid (QN hW hn)
   have hgl:=(pJ hW).2.2
   have HW:=Lib.hid hW
   clear hW
   go_wp2_with fail
   go_ret
   have hl:=jS k v
   refine⟨⟨some ⟨g,0,none⟩,k⟩,by rw[hl];rfl,hB.out,fun x hx=>?_⟩
   refine QN (t:=5) ?_ hn
   rw[hx g ⟨by rw[HG.out];exact Nat.le_refl _,hgl⟩]
   exact HW.out
theorem QP(vi:Int)(v:Nat)(ni:Int)(n:Nat)(w:World)(hv:vi=v)(hni:ni=n)(h1:1≤n)(hn:n≤8):Calls Tryz.prog 150 #[.int .i64 vi,.int .i64 ni] w (aU w (ed v n)):=by
 subst hv hni;exact QO v n w h1 hn
theorem JO(a:Option Addr)(cap:Nat)(L:List UInt8)(w:World)(h:BytesAt w a L)(hn:L.length≤1000000):Calls Tryz.prog 152 #[.slice a L.length cap] w (aU w (dP L)):=by
 have hfl:[L].flatten=L:=by simp
 have HF:=Lib.hid hfl
 go_enter Tryz.func152,Tryz.ntmps152
 go_wp2_with fail
 refine(wB 4 4 _ _ [L] _ rfl (dH.lit [(⟨a,cap⟩,L)] rfl rfl (by simpa using h) (by simp[lim])) (by simp) (by rw[hfl];exact hn)).mono ?_
 rw[HF.out]
 intro e w4 h4
 obtain⟨s4,rfl,hb4,hd4⟩:=aU.from h4 (az (Below.refl _ w) _)
 clear h hfl
 go_wp2_with fail
 go_ret
 exact⟨s4,rfl,hb4,hd4⟩
theorem Bj(s:ByteArray)(w:World)(hs:s.size≤1000000):Calls Tryz.prog 154 #[.string s] w (aU w (bM s)):=by
 have hl:s.data.toList.length=s.size:=by simp
 obtain⟨cap,w1,hcv,hb1,hB1⟩:=Qc w s (by unfold lim;omega)
 have HT:=Lib.hid (show bM s=tlv 27 s.data.toList from rfl)
 rw[HT.out]
 obtain⟨L,hL⟩:∃L,L=s.data.toList:=⟨_,rfl⟩
 rw[←hL]at hl hcv hB1 ⊢
 have hl':L.length≤1000000:=by omega
 have HF:=Lib.hid (show [L].flatten=L by simp)
 clear hL hl
 go_enter Tryz.func154,Tryz.ntmps154
 go_wp2_with fail
 refine(wB 27 27 _ _ [L] _ rfl (dH.lit [(⟨_,cap⟩,L)] rfl rfl (by simpa using hB1) (by simp[lim])) (by simp) (by rw[HF.out];exact hl')).mono ?_
 rw[HF.out]
 intro e w4 h4
 obtain⟨s4,rfl,hb4,hd4⟩:=aU.from h4 (az hb1 _)
 go_wp2_with fail
 go_ret
 exact⟨s4,rfl,hb4,hd4⟩
theorem rG(a:Option Addr)(cap:Nat)(l:List (List UInt8))(w:World)(h:dH w a l)(h0:0<l.length)(hn:l.flatten.length≤1000000):Calls Tryz.prog 107 #[.slice a l.length cap] w (aU w (dE l)):=by
 have HS:=Lib.hid (show dE l=tlv 48 l.flatten from rfl)
 rw[HS.out]
 go_enter Tryz.func107,Tryz.ntmps107
 go_wp2_with fail
 refine(wB 48 48 _ _ l _ rfl h h0 hn).mono ?_
 rintro e w4 ⟨s4,rfl,hb4,hd4⟩
 go_wp2_with fail
 go_ret
 exact⟨s4,rfl,hb4,hd4⟩
theorem Bl(v:Int)(w:World)(h0:0≤v)(h1:v≤1099511627776):Calls Tryz.prog 104 #[.int .i64 v] w (aU w (bf v.toNat)):=by
 obtain⟨n,rfl⟩:=Int.eq_ofNat_of_zero_le h0
 rw[Int.toNat_natCast]
 have HT:=Lib.hid (show bf n=tlv 24 (ed n 6) from rfl)
 have HF:=Lib.hid (show [ed n 6].flatten=ed n 6 by simp)
 rw[HT.out]
 go_enter Tryz.func104,Tryz.ntmps104
 go_wp2_with fail
 refine(QO n 6 _ (by decide) (by decide)).mono ?_
 rintro e w1 ⟨s1,rfl,hb1,hd1⟩
 go_wp2_with fail
 refine(wB 24 24 _ _ [ed n 6] _ rfl (dH.lit [(s1,ed n 6)] rfl rfl (by simpa using hd1.out) (by simp[lim])) (by simp) (by rw[HF.out,jS];decide)).mono ?_
 rw[HF.out]
 intro e w4 h4
 obtain⟨s4,rfl,hb4,hd4⟩:=aU.from h4 (az hb1 _)
 clear hd1
 go_wp2_with fail
 go_ret
 exact⟨s4,rfl,hb4,hd4⟩
theorem acn(n:Nat)(a:Option Addr)(cap:Nat)(L:List UInt8)(w:World)(hn:n≤30)(h:BytesAt w a L)(hl:L.length≤1000000):Calls Tryz.prog 156 #[.int .i64 160,.int .i64 n,.slice a L.length cap] w (aU w (aB n L)):=by
 by_cases h0:L.length=0
 ·have HT:=Lib.hid (show aB n L=[] by unfold aB;rw[if_pos h0])
  rw[HT.out]
  obtain rfl:L=[]:=List.eq_nil_of_length_eq_zero h0
  clear h h0 hl
  go_enter Tryz.func156,Tryz.ntmps156
  go_wp2_with fail
  go_ret
  exact nV (Below.refl _ _)
 ·have HT:=Lib.hid (show aB n L=tlv (160+n) L by unfold aB;rw[if_neg h0])
  have HF:=Lib.hid (show [L].flatten=L by simp)
  have h0':((L.length:Int) == 0)=false:=beq_eq_false_iff_ne.2 (by omega)
  rw[HT.out]
  go_enter Tryz.func156,Tryz.ntmps156
  go_wp2_with fail
  refine(wB _ (160+n) _ _ [L] _ (by simp;omega) (dH.lit [(⟨a,cap⟩,L)] rfl rfl (by simpa using h) (by simp[lim])) (by simp) (by rw[HF.out];exact hl)).mono ?_
  rw[HF.out]
  intro e w4 h4
  obtain⟨s4,rfl,hb4,hd4⟩:=aU.from h4 (az (Below.refl _ w) _)
  clear h
  go_wp2_with fail
  go_ret
  exact⟨s4,rfl,hb4,hd4⟩
theorem Bo(ni:Int)(n:Nat)(a:Option Addr)(cap:Nat)(L:List UInt8)(w:World)(hni:ni=n)(hn:n≤30)(h:BytesAt w a L)(hl:L.length≤1000000):Calls Tryz.prog 106 #[.int .i64 ni,.slice a L.length cap] w (aU w (aB n L)):=by
 subst hni
 go_enter Tryz.func106,Tryz.ntmps106
 go_wp2_with fail
 refine(acn n _ _ L _ hn h hl).mono ?_
 rintro e w4 ⟨s4,rfl,hb4,hd4⟩
 go_wp2_with fail
 go_ret
 exact⟨s4,rfl,hb4,hd4⟩
theorem QQ(v:Nat):1≤kU v:=by
 by_cases h:v<128
 ·rw[Af h];exact Nat.le_refl _
 ·rw[DW h];omega
theorem uB(v:Int)(w:World)(h0:0≤v)(hv:v<4611686018427387904):Calls Tryz.prog 103 #[.int .i64 v] w (aU w (aA v.toNat)):=by
 obtain⟨n,hn⟩:∃n,n=v.toNat:=⟨_,rfl⟩
 rw[←hn]
 have HN:=Lib.hid (show v=(n:Int) by omega)
 have hA:¬v < -4611686018427387904:=by omega
 have hB:¬4611686018427387904<v:=by omega
 have h8:=Ip 8 n (by decide) (by omega)
 have h1:=QQ n
 have HT:=Lib.hid (show aA n=tlv 2 (ed n (kU n)) from rfl)
 have HF:=Lib.hid (show [ed n (kU n)].flatten=ed n (kU n) by simp)
 rw[HT.out]
 obtain⟨z,hz⟩:∃z,z=kU n:=⟨_,rfl⟩
 have HZ:=Lib.hid hz
 rw[←hz]at h8 h1 HF ⊢
 have JP:n≤4611686018427387904:=by omega
 have HN8:=Lib.hid JP
 clear hz h0 hv hn JP
 go_enter Tryz.func103,Tryz.ntmps103
 go_wp2_with fail
 go_loopw [3,4] (fun sv rv wr=>∃(k m:Nat),sv=.int .i64 (k+1:Nat)∧rv=.int .i64 m∧wr=w∧m≤n∧Hid (z=kU m+k)) (fun _ rv _=>(intOf rv).toNat)
 case atStart=>exact⟨0,n,rfl,by rw[HN.out],rfl,Nat.le_refl _,HZ.out⟩
 case round=>
  obtain⟨k,m,rfl,rfl,rfl,hm,HK⟩:=hrel
  by_cases hlt:m<128
  ·have hk:k+1=z:=by rw[HK.out,Af hlt];omega
   subst hk
   have hd:¬(m:Int) < -128:=by omega
   have hd2:¬127<(m:Int):=by omega
   go_wp2_with fail
   refine(QP v n _ (k+1) _ HN.out (by simp) h1 h8).mono ?_
   rintro e w1 ⟨s1,rfl,hb1,hd1⟩
   go_wp2_with fail
   refine(wB 2 2 _ _ [ed n (k+1)] _ rfl (dH.lit [(s1,ed n (k+1))] rfl rfl (by simpa using hd1.out) (by simp[lim])) (by simp) (by rw[HF.out,jS];omega)).mono ?_
   rw[HF.out]
   intro e w4 h4
   obtain⟨s4,rfl,hb4,hd4⟩:=aU.from h4 (az hb1 _)
   clear hd1
   go_wp2_with fail
   go_ret
   exact⟨s4,rfl,hb4,hd4⟩
  ·have hk:z=kU (m / 256)+(k+1):=by rw[HK.out,DW hlt];omega
   have HK':=Lib.hid hk
   have hk8:k≤8:=by have:=QQ m;have:=HK.out;omega
   have hd:¬(m:Int) < -128:=by omega
   have hd2:127<(m:Int):=by omega
   have hmb:m≤4611686018427387904:=Nat.le_trans hm HN8.out
   have HM:=Lib.hid (show m / 256≤n by omega)
   clear hk
   go_wp2_with fail
   go_roundw
   case rel=>exact⟨k+1,m / 256,by go_num,by go_num,trivial,HM.out,HK'.out⟩
   case measure=>simp[intOf];omega
end Go.Proofs.YtibhckkjciflaaaGreatDoor
namespace Go.WW
open Go.RowKit
theorem QR:∀(l:List (List UInt8)) (n:Nat) (x:List UInt8),bU n (l++[x])=bU n l++[aB (n+l.length) x]
 | [],n,x=>rfl
 |y::l,n,x=>by
  rw[List.cons_append,bU,QR l (n+1) x,bU,List.cons_append,List.length_cons,show n+1+l.length=n+(l.length+1) by omega]
theorem JQ{l:List (List UInt8)}{k:Nat}(h:k<l.length){L:List (List UInt8)}(hL:L=bU 0 (l.take k)):bU 0 (l.take (k+1))=L++[aB k l[k]]:=by
 rw[List.take_succ_eq_append_getElem h,QR,hL,Nat.zero_add,List.length_take,Nat.min_eq_left (by omega)]
end Go.WW
namespace Go.Proofs.YtibhckkjciflaaaGreatDoor
open Go.RowKit Go.WW
theorem acr(v:Int)(w:World)(h0:0≤v)(h1:v≤4294967295):Calls Tryz.prog 216 #[.int .u32 v] w (aU w (qg v.toNat)):=by
 obtain⟨n,hn⟩:∃n,n=v.toNat:=⟨_,rfl⟩
 rw[←hn]
 have HN:=Lib.hid (show v=(n:Int) by omega)
 have HT:=Lib.hid (show qg n=tlv 3 (0::ed n 4) from rfl)
 have HF:=Lib.hid (show [[0],ed n 4].flatten=0::ed n 4 by simp)
 rw[HT.out]
 clear hn
 have hB0:=az (Below.refl _ w) (.cells #[.int .u8 0] 5)
 have hl0:BytesAt (w.alloc (.cells #[.int .u8 0] 5)) (some ⟨w.heap.size,0,none⟩) [0]:=BytesAt.lit _ [0] rfl rfl (by simp[lim])
 go_enter Tryz.func216,Tryz.ntmps216
 go_wp2_with fail
 refine(QP v n 4 4 _ HN.out rfl (by decide) (by decide)).mono ?_
 rintro e w1 ⟨s1,rfl,hb1,hd1⟩
 have hP:=((⟨hB0,by simp⟩:Ps w _ []).mid (Below.refl _ _)).add hb1 (s:=⟨some ⟨w.heap.size,0,none⟩,1⟩) (hl0.later hb1)
 have hP2:=hP.add (Below.refl _ _) hd1.out
 go_wp2_with fail
 refine(wB 3 3 _ _ [[0],ed n 4] _ rfl (dH.lit _ rfl rfl hP2.at_ (by simp[lim])) (by simp) (by rw[HF.out,List.length_cons,jS];decide)).mono ?_
 rw[HF.out]
 intro e w4 h4
 obtain⟨s4,rfl,hb4,hd4⟩:=aU.from h4 (az hP2.b _)
 clear hP hP2 hd1 hl0 hB0
 go_wp2_with fail
 go_ret
 exact⟨s4,rfl,hb4,hd4⟩
theorem acs(a:Option Addr)(cap:Nat)(l:List (List UInt8))(w:World)(h:dH w a l)(h0:0<l.length)(hx:∀x∈l,x.length≠0)(hn:l.flatten.length≤1000000):Calls Tryz.prog 382 #[.slice a l.length cap] w (aU w (dE l)):=by
 have hpl:l.length≤4294967000:=h.1
 obtain⟨b,o,s0,rfl,-,-⟩:=h.get 0 h0
 have HX:=Lib.hid hx
 clear hx
 go_enter Tryz.func382,Tryz.ntmps382
 go_wp2_with fail
 go_loopw [7] (fun iv wr=>∃k:Nat,k≤l.length∧iv=.int .i64 k∧wr=w) (fun iv _=>l.length-(intOf iv).toNat)
 case atStart=>exact⟨0,Nat.zero_le _,rfl,rfl⟩
 case round=>
  obtain⟨k,hk,rfl,rfl⟩:=hrel
  by_cases hlt:k<l.length
  ·obtain⟨s,hc,hb⟩:=h.at k hlt
   have hne:((l[k].length:Int) == 0)=false:=beq_eq_false_iff_ne.2 (by have:=HX.out _ (List.getElem_mem hlt);omega)
   go_wp2_with fail
   go_roundw
   case rel=>exact⟨k+1,by omega,by go_num,trivial⟩
   case measure=>simp[intOf];omega
  ·go_wp2_with fail
   refine(rG _ _ l _ h h0 hn).mono ?_
   rintro e w4 ⟨s4,rfl,hb4,hd4⟩
   go_wp2_with fail
   go_ret
   exact⟨s4,rfl,hb4,hd4⟩
theorem acu{n:Nat}{x:List UInt8}(h:x.length≠0):(aB n x).length≠0:=by
 unfold aB;rw[if_neg h]
 have:=(mJ (160+n) x).1;omega
theorem QS:∀(l:List (List UInt8)) (n:Nat),(∀x∈l,x.length≠0)→∀x∈bU n l,x.length≠0
 | [],_,_,x,hx=>by cases hx
 |y::l,n,h,x,hx=>by
  rw[bU]at hx
  rcases List.mem_cons.1 hx with rfl|hx
  ·exact acu (h y (by simp))
  ·exact QS l (n+1) (fun z hz=>h z (by simp[hz])) x hx
theorem acv(a:Option Addr)(cap:Nat)(l:List (List UInt8))(w:World)(h:dH w a l)(h0:0<l.length)(h30:l.length≤30)(hx:∀x∈l,x.length≠0)(hx1:∀x∈l,x.length≤1000000)(hn:(bU 0 l).flatten.length≤1000000):Calls Tryz.prog 347 #[.slice a l.length cap] w (aU w (jT l)):=by
 obtain⟨b,o,s0,rfl,-,-⟩:=h.get 0 h0
 have HX:=Lib.hid (QS l 0 hx)
 have lh:=Lib.hid hx1
 have HS:=Lib.hid (show jT l=dE (bU 0 l) from rfl)
 have HN:=Lib.hid hn
 rw[HS.out]
 clear hx hx1 hn
 go_enter Tryz.func347,Tryz.ntmps347
 go_wp2_with fail
 go_loopw [3,8] (fun bv iv wr=>∃(k:Nat) (so:Sl) (L:List (List UInt8)),k≤l.length∧iv=.int .i64 k∧bv=.slice so.a L.length so.cap∧fE 41 w wr so L∧Hid (L=bU 0 (l.take k))) (fun _ iv _=>l.length-(intOf iv).toNat)
 case atStart=>exact⟨0,⟨none,0⟩,[],Nat.zero_le _,rfl,rfl,fE.none _ (Below.refl _ _),rfl⟩
 case round=>
  obtain⟨k,so,L,hk,rfl,rfl,hH,HL⟩:=hrel
  by_cases hlt:k<l.length
  ·obtain⟨s,hc,hb⟩:=(h.later hH.b).at k hlt
   obtain⟨L',hL'⟩:∃L',L'=bU 0 (l.take (k+1)):=⟨_,rfl⟩
   have HA:=Lib.hid (show L'=L++[aB k l[k]] by rw[hL',JQ hlt HL.out])
   have hLn:L'.length≤1000000:=by rw[hL',yf,List.length_take];omega
   have jC:=Lib.hid hL'
   clear hL'
   go_wp2_with fail
   refine(Bo k k _ _ l[k] _ rfl (by omega) hb (lh.out _ (List.getElem_mem hlt))).mono ?_
   rintro e w2 ⟨s2,rfl,hb2,hd2⟩
   go_wp2_with (at_builtin;refine lg (L:=L') rfl _ _ _ rfl jM hH hb2 hd2 rfl rfl rfl rfl HA.out hLn ?_;intro s3 w3 hH3)
   go_roundw
   case rel=>exact⟨k+1,s3,L',by omega,by go_num,rfl,hH3,jC.out⟩
   case measure=>simp[intOf];omega
  ·have HE:=Lib.hid (show L=bU 0 l by rw[HL.out,List.take_of_length_le (by omega)])
   have hL0:L.length=l.length:=by rw[HE.out,yf]
   have hh:=(hH.hist (by unfold lim;omega)).out
   have hL1:0<L.length:=by omega
   rw[←HE.out]at HX HN ⊢
   clear hL0
   go_wp2_with fail
   refine(acs _ _ L _ hh hL1 HX.out HN.out).mono ?_
   intro e w4 h4
   obtain⟨s4,rfl,hb4,hd4⟩:=aU.from h4 hH.b
   clear hH hh
   go_wp2_with fail
   go_ret
   rw[←HE.out]
   exact⟨s4,rfl,hb4,hd4⟩
end Go.Proofs.YtibhckkjciflaaaGreatDoor
namespace Go.WW
open Go.RowKit
def fM(l:List (Sl×List UInt8)):Array Value:=(l.map fun x=>Value.slice x.1.a x.2.length x.1.cap).toArray
theorem QU{l:List (Sl×List UInt8)}{j:Nat}{v:Value}(h:(fM l)[j]?=some v):∃x,l[j]?=some x∧v=.slice x.1.a x.2.length x.1.cap:=by
 unfold fM at h
 rw[List.getElem?_toArray,List.getElem?_map]at h
 cases hx:l[j]? with
 |none=>rw[hx]at h;cases h
 |some x=>rw[hx]at h;exact⟨x,rfl,by cases h;rfl⟩
theorem JR{l:List (Sl×List UInt8)}{j:Nat}(h:j<l.length):(fM l)[j]?=some (.slice l[j].1.a l[j].2.length l[j].1.cap):=by
 unfold fM;simp[h]
theorem acw{w:World}{g k:Nat}{v:Value}{items:List (Sl×List UInt8)}{t:TypeId}(hg:w.heap[g]?=some (.cells (fM items) t)){A:Option Addr}{l:List UInt8}(h:BytesAt w A l):BytesAt (w.setCell ⟨g,k,none⟩ v) A l:=by
 refine⟨h.1,fun i hi=>?_⟩
 obtain⟨b,o,u,ha,hc,c,hc1,hc2⟩:=h.2 i hi
 refine⟨b,o,u,ha,?_,c,hc1,hc2⟩
 have hne:b≠g:=by
  intro e;subst e
  rw[(pJ hg).1]at hc
  obtain⟨x,-,hx⟩:=QU hc
  subst hc2;cases hx
 rw[World.cell?_of_block (a:=⟨b,o+i,none⟩) (Below.heap_setCell w ⟨g,k,none⟩ v b hne)]
 exact hc
theorem acx{k:Nat}(res rest:List (Sl×List UInt8))(x:Sl×List UInt8)(hk:res.length=k):(fM (res++x::rest))[k]?=some (.slice x.1.a x.2.length x.1.cap):=by
 subst hk
 rw[JR (by simp)];simp
theorem acy{k:Nat}(res rest:List (Sl×List UInt8))(x y:Sl×List UInt8)(hk:res.length=k):(fM (res++x::rest)).setIfInBounds k (.slice y.1.a y.2.length y.1.cap)=fM ((res++[y])++rest):=by
 subst hk
 unfold fM
 simp
theorem acz{w:World}{g:Nat}{t:TypeId}{items:List (Sl×List UInt8)}(hg:w.heap[g]?=some (.cells (fM items) t))(hb:∀x∈items,BytesAt w x.1.a x.2)(hl:items.length≤lim):dH w (some ⟨g,0,none⟩) (items.map (·.2)):=by
 refine⟨by simpa using hl,fun i hi=>?_⟩
 have hi':i<items.length:=by simpa using hi
 refine⟨g,0,.slice items[i].1.a items[i].2.length items[i].1.cap,rfl,?_,items[i].2,items[i].1,by simp[hi'],rfl,hb _ (List.getElem_mem hi')⟩
 rw[(pJ hg).1,Nat.zero_add,JR hi']
end Go.WW
namespace Go.Proofs.YtibhckkjciflaaaGreatDoor
open Go.RowKit Go.WW
theorem QV(g n0 cap:Nat)(items:List (Sl×List UInt8))(w:World)(hg:w.heap[g]?=some (.cells (fM items) 41))(hn0:n0≤g)(hb:∀x∈items,BytesAt w x.1.a x.2)(h0:0<items.length)(h30:items.length≤30)
  (hx1:∀x∈items,x.2.length≤1000000) (hn:(bU 0 (items.map (·.2))).flatten.length≤1000000) :
  Calls Tryz.prog 213 #[.slice (some ⟨g,0,none⟩) items.length cap] w fun e w'=>∃s:Sl,e=.returned (.slice s.a (jT (items.map (·.2))).length s.cap)∧Below n0 w w'∧bg w' (fresh w.heap.size w') fun x=>BytesAt x s.a (jT (items.map (·.2))):=by
 have lh:=Lib.hid hx1
 have HS:=Lib.hid (show jT (items.map (·.2))=dE (bU 0 (items.map (·.2))) from rfl)
 have HN:=Lib.hid hn
 have HB:=Lib.hid hb
 have HG:=Lib.hid hg
 have hgl:=(pJ hg).2.2
 rw[HS.out]
 clear hx1 hn hb hg
 go_enter Tryz.func213,Tryz.ntmps213
 go_wp2_with fail
 go_loopw [7] (fun iv wr=>∃(k:Nat) (res:List (Sl×List UInt8)),k≤items.length∧iv=.int .i64 k∧Hid (res.length=k∧res.map (·.2)=bU 0 ((items.map (·.2)).take k)∧wr.heap[g]?=some (.cells (fM (res++items.drop k)) 41)∧(∀x∈res++items.drop k,BytesAt wr x.1.a x.2)∧Below n0 w wr∧w.heap.size≤wr.heap.size)) (fun iv _=>items.length-(intOf iv).toNat)
 case atStart=>exact⟨0,[],Nat.zero_le _,rfl,rfl,rfl,HG.out,HB.out,(Below.refl _ _).mono (by omega),Nat.le_refl _⟩
 case round=>
  obtain⟨k,res,hk,rfl,HI⟩:=hrel
  by_cases hlt:k<items.length
  ·obtain⟨hrl,hrm,hgw,hbw,hbl,hsz⟩:=HI.out
   obtain⟨hc,hf,hgl⟩:=pJ hgw
   have hd:items.drop k=items[k]::items.drop (k+1):=List.drop_eq_getElem_cons hlt
   have hxk:=hbw items[k] (List.mem_append.2 (.inr (hd▸List.mem_cons_self)))
   have hck:wr.cell? ⟨g,k,none⟩=some (.slice items[k].1.a items[k].2.length items[k].1.cap):=by
    rw[hc,hd]
    exact acx _ _ _ hrl
   have hfk:=hf k
   have hn1:=lh.out items[k] (List.getElem_mem hlt)
   clear hc hf hrl hrm hgw hbw hbl hsz hd
   go_wp2_with fail
   refine(Bo k k _ _ items[k].2 _ rfl (by omega) hxk hn1).mono ?_
   rintro e w2 ⟨s2,rfl,hb2,hd2⟩
   have hc2:w2.cell? ⟨g,k,none⟩=some (.slice items[k].1.a items[k].2.length items[k].1.cap):=(hb2.cell (p:=⟨g,k,none⟩) hgl).trans hck
   have hf2:w2.frozen? ⟨g,k,none⟩=false:=(hb2.frozen (p:=⟨g,k,none⟩) hgl).trans hfk
   clear hck hfk hxk
   go_wp2_with fail
   go_roundw
   case rel=>
    obtain⟨hrl,hrm,hgw,hbw,hbl,hsz⟩:=HI.out
    have hd:items.drop k=items[k]::items.drop (k+1):=List.drop_eq_getElem_cons hlt
    have hg2:w2.heap[g]?=some (.cells (fM (res++items.drop k)) 41):=(hb2.block g hgl).trans hgw
    refine⟨k+1,res++[(s2,aB k items[k].2)],by omega,by go_num,by simp[hrl],?_,?_,?_,JM ((hbl.trans (hb2.mono ?_))) hn0,?_⟩
    ·rw[List.map_append,JQ (by simpa using hlt) hrm]
     simp
    ·rw[hd]at hg2
     have:=jA (o:=k) (.slice s2.a (aB k items[k].2).length s2.cap) hg2
     rw[acy _ _ _ (s2,aB k items[k].2) hrl]at this
     exact this
    ·intro x hx
     refine acw hg2 ?_
     rcases List.mem_append.1 hx with hx|hx
     ·rcases List.mem_append.1 hx with hx|hx
      ·exact(hbw x (List.mem_append.2 (.inl hx))).later hb2
      ·simp only[List.mem_cons,List.not_mem_nil,or_false]at hx;subst hx;exact hd2.out
     ·exact(hbw x (List.mem_append.2 (.inr (hd▸List.mem_cons_of_mem _ hx)))).later hb2
    ·have:=hbl.size;omega
    ·have:=hb2.size;simp[World.setCell];omega
   case measure=>simp[intOf];omega
  ·obtain⟨hrl,hrm,hgw,hbw,hbl,hsz⟩:=HI.out
   rw[List.drop_of_length_le (by omega),List.append_nil]at hgw hbw
   rw[List.take_of_length_le (by rw[List.length_map];omega)]at hrm
   have hh:=acz hgw hbw (by unfold lim;omega)
   rw[hrm]at hh
   have hln:(bU 0 (items.map (·.2))).length=items.length:=by rw[yf,List.length_map]
   have mQ:=Lib.hid (rG (some ⟨g,0,none⟩) cap (bU 0 (items.map (·.2))) wr hh (by rw[hln];exact h0) HN.out)
   rw[hln]at mQ
   have EI:=Lib.hid hbl
   clear hh hln hrl hrm hgw hbw hbl
   go_wp2_with fail
   refine mQ.out.mono ?_
   rintro e w4 ⟨s4,rfl,hb4,hd4⟩
   have HB4:=Lib.hid (EI.out.trans (hb4.mono (by have:=EI.out.size;omega)))
   have HD4:=Lib.hid (hd4.to (S1:=fresh w.heap.size w4) (fun _ _=>rfl) (fun j hj=>⟨Nat.le_trans hsz hj.1,hj.2⟩))
   clear hd4 hb4 mQ
   go_wp2_with fail
   go_ret
   exact⟨s4,rfl,HB4.out,HD4.out⟩
end Go.Proofs.YtibhckkjciflaaaGreatDoor
