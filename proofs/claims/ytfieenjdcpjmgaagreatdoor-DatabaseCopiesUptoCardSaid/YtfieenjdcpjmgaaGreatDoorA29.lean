/- A part of the proof. -/
import Derived.Test.YtfieenjdcpjmgaaGreatDoorA28
import Derived.Test.YtfieenjdcpjmgaaGreatDoorProg
import Derived.Shelf.Small.Strs
import Derived.Test.YtfieenjdcpjmgaaGreatDoorA13
import Derived.Test.YtfieenjdcpjmgaaGreatDoorA09
import Derived.Test.YtfieenjdcpjmgaaGreatDoorA07
set_option maxRecDepth 100000
set_option maxHeartbeats 16000000
namespace Go.Proofs.YtfieenjdcpjmgaaGreatDoor
open Go.RowKit Go.WW
theorem amP(s:Sl)(p:az)(w:World)(hp:bz w s p)(hok:bC p=true):Calls Tryz.prog 259 #[.agg (ai s p)] w fun e w'=>∃s':Sl,e=.returned (.tuple #[.slice s'.a (fD p).length s'.cap,.int .i64 0])∧Below w.heap.size w w'∧bD w' (fresh w.heap.size w') fun x=>BytesAt x s'.a (fD p):=by
 obtain⟨hpn,hps,hpr⟩:=Ef hok
 have hp0:0<p.parts.length:=List.length_pos_iff.2 (sZ hok)
 have hB0:Below w.heap.size w (w.alloc (.cells (ai s p) 40)):=aj (Below.refl _ _) _
 obtain⟨sa,scap⟩:=s
 obtain⟨b,o,ha,-,-⟩:=hp.1.get 0 hp0
 dsimp only at ha
 subst ha
 have hpL:=(hp.later hB0).1
 have Y6:=hp.later hB0
 have HS:=Lib.hid hps
 go_enter Tryz.func259,Tryz.ntmps259
 go_wp2_with fail
 refine(zZ _ _ _ Y6).mono ?_
 rintro e wv ⟨rfl,hbv⟩
 rw[hok]
 obtain⟨hcc,aS,hrr⟩:=aY hbv
 have hsz:w.heap.size<wv.heap.size:=by have:=hbv.size;simp at this;omega
 go_wp2_with fail
 have hcR:wv.cell? ⟨w.heap.size,1,none⟩=some (.string p.aF):=by rw[hcc _ _ (by simp)];simp[go_sem]
 have hBv:=ag hB0 hbv
 replace hpL:=hpL.later hbv
 clear hcc aS hrr Y6 hbv
 go_loopw [4,13] (fun bv iv wr=>∃(k:Nat) (so:Sl) (L:List (List UInt8)),k≤p.parts.length∧iv=.int .i64 k∧bv=.slice so.a L.length so.cap∧gY 61 wv wr so L∧Hid (L=(p.parts.take k).map eU)) (fun _ i _=>p.parts.length-(intOf i).toNat)
 case atStart=>exact⟨0,⟨none,0⟩,[],Nat.zero_le _,rfl,rfl,gY.none _ (Below.refl _ _),rfl⟩
 case round=>
  obtain⟨k,so,L,hk,rfl,rfl,hH,HL⟩:=hrel
  obtain⟨hcc,aS,hrr⟩:=aY hH.b
  have Bj:L.length=k:=by rw[HL.out];simp;omega
  have IB:=Lib.hid Bj
  have hw1:wr.cell? ⟨w.heap.size,1,none⟩=some (.string p.aF):=(hcc _ _ hsz).trans hcR
  have hwl:w.heap.size<wr.heap.size:=World.block_lt_of_cell? wr _ hw1
  clear Bj hcc aS hrr
  by_cases hlt:k<p.parts.length
  ·obtain⟨hck,hsk⟩:=(hpL.later hH.b).at k hlt
   have hbb:b<wr.heap.size:=World.block_lt_of_cell? wr _ hck
   have hsz:p.parts[k].size≤32:=HS.out _ (List.getElem_mem hlt)
   obtain⟨L',hL'⟩:∃L',L'=(p.parts.take (k+1)).map eU:=⟨_,rfl⟩
   obtain⟨x,hx⟩:∃x,x=eU p.parts[k]:=⟨_,rfl⟩
   have HA:=Lib.hid (show L'=L++[x] by rw[hL',hx,vN _ hlt HL.out])
   have hLn:L'.length≤1000000:=by rw[hL',List.length_map,List.length_take];omega
   have ku:=Lib.hid hL'
   have HX:=Lib.hid hx
   clear hL' hx
   go_wp2_with fail
   refine(OU _ _ (Nat.le_trans hsz (by decide))).mono ?_
   rw[←HX.out]
   rintro e w2 ⟨s2,rfl,hb2,hd2⟩
   go_wp2_with (at_builtin;refine rX (L:=L') rfl _ _ _ rfl pW hH hb2 hd2 rfl rfl rfl rfl HA.out hLn ?_;intro s3 w3 hH3)
   go_roundw
   case rel=>exact⟨k+1,s3,L',by omega,by go_num,rfl,hH3,ku.out⟩
   case measure=>simp[intOf];omega
  ·have HE:=Lib.hid (show L=p.parts.map eU by rw[HL.out,vO _ hlt])
   have hh:=hH.hist (by unfold lim;rw[IB.out];omega)
   have hfl:=NP hok
   rw[←HE.out]at hfl
   have HL0:=Lib.hid (show 0<L.length by rw[IB.out];omega)
   have hT1:(dN L).length≤1000000:=by have:=uA L;omega
   have hT2:(eU p.aF).length≤1000000:=by have:=Ee p.aF;omega
   have zt:[bM 0 (dN L),bM 1 (eU p.aF)].flatten.length≤1000000:=by
    have h1:=NQ hok
    rw[←HE.out]at h1
    simp only[dS]at h1
    exact Nat.le_trans h1 (by decide)
   go_wp2_with fail
   refine qH (Below.refl _ wr) (by kernel_rfl) (by kernel_rfl) ?_
   intro w1 hb1
   repeat (first|(refine ak (by rfl) ?_)|(refine aI (by rfl) (by rfl) (fun K hK=>?_);go_big_quiet_op;refine hK _ ?_;clear hK K))
   refine aK (by rfl) (by rfl) (fun K hK=>?_)
   go_wp2_with fail
   refine(xO _ _ L _ (hh.out.later hb1) HL0.out (by omega)).mono ?_
   rintro e w2 ⟨s2,rfl,hb2,hd2⟩
   have hb2':=ag hb1 hb2
   refine hK _ _ (aA hb2') ?_
   clear hK K
   repeat (first|(refine ak (by rfl) ?_)|(refine aI (by rfl) (by rfl) (fun K hK=>?_);go_big_quiet_op;refine hK _ ?_;clear hK K))
   refine aK (by rfl) (by rfl) (fun K hK=>?_)
   go_wp2_with fail
   refine(IV 0 0 _ _ (dN L) _ rfl (by decide) hd2.out hT1).mono ?_
   rintro e w3 ⟨s3,rfl,hb3,hd3⟩
   have tX:=ag hb2' hb3
   refine hK _ _ (aA tX) ?_
   clear hK K
   repeat (first|(refine ak (by rfl) ?_)|(refine aI (by rfl) (by rfl) (fun K hK=>?_);go_big_quiet_op;refine hK _ ?_;clear hK K))
   refine aK (by rfl) (by rfl) (fun K hK=>?_)
   go_wp2_with fail
   refine(OU _ _ (Nat.le_trans hpr (by decide))).mono ?_
   rintro e w4 ⟨s4,rfl,hb4,hd4⟩
   have jW:=ag tX hb4
   refine hK _ _ (aA jW) ?_
   clear hK K
   repeat (first|(refine ak (by rfl) ?_)|(refine aI (by rfl) (by rfl) (fun K hK=>?_);go_big_quiet_op;refine hK _ ?_;clear hK K))
   refine aK (by rfl) (by rfl) (fun K hK=>?_)
   go_wp2_with fail
   refine(IV 1 1 _ _ (eU p.aF) _ rfl (by decide) hd4.out hT2).mono ?_
   rintro e w5 ⟨s5,rfl,hb5,hd5⟩
   have jk:=ag jW hb5
   refine hK _ _ (aA jk) ?_
   clear hK K
   repeat (first|(refine ak (by rfl) ?_)|(refine aI (by rfl) (by rfl) (fun K hK=>?_);go_big_quiet_op;refine hK _ ?_;clear hK K))
   refine aK (by rfl) (by rfl) (fun K hK=>?_)
   go_wp2_with fail
   refine hK _ _ (aA (aj jk _)) ?_
   clear hK K
   repeat (first|(refine ak (by rfl) ?_)|(refine aI (by rfl) (by rfl) (fun K hK=>?_);go_big_quiet_op;refine hK _ ?_;clear hK K))
   refine aK (by rfl) (by rfl) (fun K hK=>?_)
   go_wp2_with fail
   refine(xO _ _ [bM 0 (dN L),bM 1 (eU p.aF)] _ (fG.lit [(s3,bM 0 (dN L)),(s5,bM 1 (eU p.aF))] rfl rfl (fun x hx=>?_) (by simp[lim])) (by simp) zt).mono ?_
   ·simp only[List.mem_cons,List.not_mem_nil,or_false]at hx
    rcases hx with rfl|rfl
    ·exact(hd3.out.later hb4).later hb5
    ·exact hd5.out
   rintro e w6 ⟨s6,rfl,hb6,hd6⟩
   have lu:=ag (aj jk _) hb6
   have hX:=ag (ag hBv hH.b) (aj jk (.cells #[.slice s3.a (bM 0 (dN L)).length s3.cap,.slice s5.a (bM 1 (eU p.aF)).length s5.cap] 61))
   have HB:=Lib.hid (And.intro (ag hX hb6) (hd6.to (S1:=fresh w.heap.size w6) (fun _ _=>rfl) (fun j hj=>⟨Nat.le_trans hX.size hj.1,hj.2⟩)))
   clear hX
   have HP:=Lib.hid (show fD p=dN [bM 0 (dN L),bM 1 (eU p.aF)] by rw[HE.out];rfl)
   clear hb2 hd2 hb3 hd3 hb4 hd4 hb5 hd5 hb6 hd6 hH hh
   refine hK _ _ (aA lu) ?_
   clear hK K
   repeat (first|(refine ak (by rfl) ?_)|(refine aI (by rfl) (by rfl) (fun K hK=>?_);go_big_quiet_op;refine hK _ ?_;clear hK K))
   refine bQ ?_
   go_wp2_with fail
   go_ret2
   rw[HP.out]
   exact⟨s6,rfl,HB.out.1,HB.out.2⟩
theorem Y7(s:Sl)(p:az)(w:World)(hp:bz w s p)(hok:bC p=true):Calls Tryz.prog 178 #[.agg (ai s p)] w (bG w (fD p)):=by
 have hB0:Below w.heap.size w (w.alloc (.cells (ai s p) 40)):=aj (Below.refl _ _) _
 have hpL:=hp.later hB0
 go_enter Tryz.func178,Tryz.ntmps178
 go_wp2_with fail
 refine(amP _ _ _ hpL hok).mono ?_
 rintro e w1 ⟨s1,rfl,hb1,hd1⟩
 obtain⟨s2,hs2,hb2,hd2⟩:=bG.from (W:=w) ⟨s1,rfl,hb1,hd1⟩ hB0
 clear hpL
 go_wp2_with fail
 go_ret
 exact⟨s2,by rw[←hs2];rfl,hb2,hd2⟩
theorem OX(a:Option Addr)(cap:Nat)(l:List az)(w:World)(h:fF w a l)(hok:∀p∈l,bC p=true)(h16:l.length≤16):Calls Tryz.prog 179 #[.slice a l.length cap,.func (.func 178) #[] #[]] w (bG w (di (l.map fD))):=by
 rcases aV.addr h with h0|⟨b,o,rfl,hb⟩
 ·obtain rfl:l=[]:=List.eq_nil_of_length_eq_zero h0
  go_enter Tryz.func179,Tryz.ntmps179
  go_wp2_with fail
  go_ret
  exact pG (Below.refl _ _)
 by_cases h0:l.length=0
 ·obtain rfl:l=[]:=List.eq_nil_of_length_eq_zero h0
  go_enter Tryz.func179,Tryz.ntmps179
  go_wp2_with fail
  go_ret
  exact pG (Below.refl _ _)
 have hl0:((l.length:Int) == 0)=false:=beq_eq_false_iff_ne.2 (by omega)
 have HK:=Lib.hid hok
 have hfl:=map_le (f:=fD) (m:=205) (n:=16) (l:=l) (fun p hp=>Iy (hok p hp)) h16
 have HF:=Lib.hid (Nat.le_trans hfl (by decide:16*205≤1000000))
 have HT:=Lib.hid (show di (l.map fD)=dN (l.map fD) by unfold di;rw[if_neg (by rw[List.length_map];exact h0)])
 have hpos:0<l.length:=by omega
 rw[HT.out]
 clear hok hfl h0
 go_enter Tryz.func179,Tryz.ntmps179
 go_wp2_with fail
 go_loopw [5,13] (fun bv iv wr=>∃(k:Nat) (so:Sl) (L:List (List UInt8)),k≤l.length∧iv=.int .i64 k∧bv=.slice so.a L.length so.cap∧gY 61 w wr so L∧Hid (L=(l.take k).map fD)) (fun _ iv _=>l.length-(intOf iv).toNat)
 case atStart=>exact⟨0,⟨none,0⟩,[],Nat.zero_le _,rfl,rfl,gY.none _ (Below.refl _ _),rfl⟩
 case round=>
  obtain⟨k,so,L,hk,rfl,rfl,hH,HL⟩:=hrel
  by_cases hlt:k<l.length
  ·obtain⟨t,hrow,hp⟩:=(h.later hH.b).at k hlt
   obtain⟨L',hL'⟩:∃L',L'=(l.take (k+1)).map fD:=⟨_,rfl⟩
   obtain⟨x,hx⟩:∃x,x=fD l[k]:=⟨_,rfl⟩
   have HA:=Lib.hid (show L'=L++[x] by rw[hL',hx,vN _ hlt HL.out])
   have hLn:L'.length≤1000000:=by rw[hL',List.length_map,List.length_take];omega
   have ku:=Lib.hid hL'
   have HX:=Lib.hid hx
   clear hL' hx
   go_wp2_with fail
   have hbn:Below wr.heap.size wr (wr.alloc (.cells (ai t l[k]) 40)):=aj (Below.refl _ _) _
   refine(Y7 _ l[k] _ (hp.later hbn) (HK.out _ (List.getElem_mem hlt))).mono ?_
   rw[←HX.out]
   rintro e w2 ⟨s2,rfl,hb2,hd2⟩
   have hb2':=ag hbn hb2
   have zD:bD w2 (fresh wr.heap.size w2) (fun y=>BytesAt y s2.a x):=hd2.to (fun _ _=>rfl) (fun j hj=>⟨by have:=hj.1;simp at this;omega,hj.2⟩)
   clear hbn hb2 hd2
   go_wp2_with (at_builtin;refine rX (L:=L') rfl _ _ _ rfl pW hH hb2' zD rfl rfl rfl rfl HA.out hLn ?_;intro s3 w3 hH3)
   go_roundw
   case rel=>exact⟨k+1,s3,L',by omega,by go_num,rfl,hH3,ku.out⟩
   case measure=>simp[intOf];omega
  ·have HE:=Lib.hid (show L=l.map fD by rw[HL.out,vO _ hlt])
   have hll:L.length=l.length:=by rw[HE.out,List.length_map]
   have hh:=(hH.hist (by unfold lim;omega)).out
   have hL0:0<L.length:=by omega
   rw[←HE.out]at HF ⊢
   clear hll
   go_wp2_with fail
   refine(xO _ _ L _ hh hL0 HF.out).mono ?_
   intro e w4 h4
   obtain⟨s4,rfl,hb4,hd4⟩:=bG.from h4 hH.b
   clear hH hh
   go_wp2_with fail
   go_ret
   rw[←HE.out]
   exact⟨s4,rfl,hb4,hd4⟩
theorem amS(a:Option Addr)(cap:Nat)(l:List Key)(w:World)(h:kP w a l)(hok:∀p∈l,zi p)(h16:l.length≤16):Calls Tryz.prog 263 #[.slice a l.length cap,.func (.func 264) #[] #[]] w (bG w (di (l.map iw))):=by
 rcases aV.addr h with h0|⟨b,o,rfl,hb⟩
 ·obtain rfl:l=[]:=List.eq_nil_of_length_eq_zero h0
  go_enter Tryz.func263,Tryz.ntmps263
  go_wp2_with fail
  go_ret
  exact pG (Below.refl _ _)
 by_cases h0:l.length=0
 ·obtain rfl:l=[]:=List.eq_nil_of_length_eq_zero h0
  go_enter Tryz.func263,Tryz.ntmps263
  go_wp2_with fail
  go_ret
  exact pG (Below.refl _ _)
 have hl0:((l.length:Int) == 0)=false:=beq_eq_false_iff_ne.2 (by omega)
 have HK:=Lib.hid hok
 have hfl:=map_le (f:=iw) (m:=295) (n:=16) (l:=l) (fun p hp=>Eg (hok p hp)) h16
 have HF:=Lib.hid (Nat.le_trans hfl (by decide:16*295≤1000000))
 have HT:=Lib.hid (show di (l.map iw)=dN (l.map iw) by unfold di;rw[if_neg (by rw[List.length_map];exact h0)])
 have hpos:0<l.length:=by omega
 rw[HT.out]
 clear hok hfl h0
 go_enter Tryz.func263,Tryz.ntmps263
 go_wp2_with fail
 go_loopw [5,13] (fun bv iv wr=>∃(k:Nat) (so:Sl) (L:List (List UInt8)),k≤l.length∧iv=.int .i64 k∧bv=.slice so.a L.length so.cap∧gY 61 w wr so L∧Hid (L=(l.take k).map iw)) (fun _ iv _=>l.length-(intOf iv).toNat)
 case atStart=>exact⟨0,⟨none,0⟩,[],Nat.zero_le _,rfl,rfl,gY.none _ (Below.refl _ _),rfl⟩
 case round=>
  obtain⟨k,so,L,hk,rfl,rfl,hH,HL⟩:=hrel
  by_cases hlt:k<l.length
  ·obtain⟨t,hrow,hp⟩:=(h.later hH.b).at k hlt
   obtain⟨L',hL'⟩:∃L',L'=(l.take (k+1)).map iw:=⟨_,rfl⟩
   obtain⟨x,hx⟩:∃x,x=iw l[k]:=⟨_,rfl⟩
   have HA:=Lib.hid (show L'=L++[x] by rw[hL',hx,vN _ hlt HL.out])
   have hLn:L'.length≤1000000:=by rw[hL',List.length_map,List.length_take];omega
   have ku:=Lib.hid hL'
   have HX:=Lib.hid hx
   clear hL' hx
   go_wp2_with fail
   have hbn:Below wr.heap.size wr (wr.alloc (.cells (bW t l[k]) 69)):=aj (Below.refl _ _) _
   refine(amO _ l[k] _ (hp.later hbn) (HK.out _ (List.getElem_mem hlt))).mono ?_
   rw[←HX.out]
   rintro e w2 ⟨s2,rfl,hb2,hd2⟩
   have hb2':=ag hbn hb2
   have zD:bD w2 (fresh wr.heap.size w2) (fun y=>BytesAt y s2.a x):=hd2.to (fun _ _=>rfl) (fun j hj=>⟨by have:=hj.1;simp at this;omega,hj.2⟩)
   clear hbn hb2 hd2
   go_wp2_with (at_builtin;refine rX (L:=L') rfl _ _ _ rfl pW hH hb2' zD rfl rfl rfl rfl HA.out hLn ?_;intro s3 w3 hH3)
   go_roundw
   case rel=>exact⟨k+1,s3,L',by omega,by go_num,rfl,hH3,ku.out⟩
   case measure=>simp[intOf];omega
  ·have HE:=Lib.hid (show L=l.map iw by rw[HL.out,vO _ hlt])
   have hll:L.length=l.length:=by rw[HE.out,List.length_map]
   have hh:=(hH.hist (by unfold lim;omega)).out
   have hL0:0<L.length:=by omega
   rw[←HE.out]at HF ⊢
   clear hll
   go_wp2_with fail
   refine(xO _ _ L _ hh hL0 HF.out).mono ?_
   intro e w4 h4
   obtain⟨s4,rfl,hb4,hd4⟩:=bG.from h4 hH.b
   clear hH hh
   go_wp2_with fail
   go_ret
   rw[←HE.out]
   exact⟨s4,rfl,hb4,hd4⟩
theorem amT(a:Option Addr)(cap:Nat)(l:List (List UInt8))(w:World)(h:fG w a l)(hok:∀p∈l,p.length=16)(h16:l.length≤16):Calls Tryz.prog 186 #[.slice a l.length cap,.func (.func 187) #[] #[]] w (bG w (di (l.map fZ))):=by
 rcases dU.addr h with h0|⟨b,o,rfl,hb⟩
 ·obtain rfl:l=[]:=List.eq_nil_of_length_eq_zero h0
  go_enter Tryz.func186,Tryz.ntmps186
  go_wp2_with fail
  go_ret
  exact pG (Below.refl _ _)
 by_cases h0:l.length=0
 ·obtain rfl:l=[]:=List.eq_nil_of_length_eq_zero h0
  go_enter Tryz.func186,Tryz.ntmps186
  go_wp2_with fail
  go_ret
  exact pG (Below.refl _ _)
 have hl0:((l.length:Int) == 0)=false:=beq_eq_false_iff_ne.2 (by omega)
 have HK:=Lib.hid hok
 have hfl:=map_le (f:=fZ) (m:=21) (n:=16) (l:=l) (fun p hp=>by have:=Bg p;have:=hok p hp;omega) h16
 have HF:=Lib.hid (Nat.le_trans hfl (by decide:16*21≤1000000))
 have HT:=Lib.hid (show di (l.map fZ)=dN (l.map fZ) by unfold di;rw[if_neg (by rw[List.length_map];exact h0)])
 have hpos:0<l.length:=by omega
 rw[HT.out]
 clear hok hfl h0
 go_enter Tryz.func186,Tryz.ntmps186
 go_wp2_with fail
 go_loopw [5,13] (fun bv iv wr=>∃(k:Nat) (so:Sl) (L:List (List UInt8)),k≤l.length∧iv=.int .i64 k∧bv=.slice so.a L.length so.cap∧gY 61 w wr so L∧Hid (L=(l.take k).map fZ)) (fun _ iv _=>l.length-(intOf iv).toNat)
 case atStart=>exact⟨0,⟨none,0⟩,[],Nat.zero_le _,rfl,rfl,gY.none _ (Below.refl _ _),rfl⟩
 case round=>
  obtain⟨k,so,L,hk,rfl,rfl,hH,HL⟩:=hrel
  by_cases hlt:k<l.length
  ·obtain⟨t,hrow,hp⟩:=(h.later hH.b).at k hlt
   obtain⟨L',hL'⟩:∃L',L'=(l.take (k+1)).map fZ:=⟨_,rfl⟩
   obtain⟨x,hx⟩:∃x,x=fZ l[k]:=⟨_,rfl⟩
   have HA:=Lib.hid (show L'=L++[x] by rw[hL',hx,vN _ hlt HL.out])
   have hLn:L'.length≤1000000:=by rw[hL',List.length_map,List.length_take];omega
   have ku:=Lib.hid hL'
   have HX:=Lib.hid hx
   clear hL' hx
   go_wp2_with fail
   refine(YW _ _ l[k] _ hp (by rw[HK.out _ (List.getElem_mem hlt)];decide)).mono ?_
   rw[←HX.out]
   rintro e w2 ⟨s2,rfl,hb2',zD⟩
   go_wp2_with (at_builtin;refine rX (L:=L') rfl _ _ _ rfl pW hH hb2' zD rfl rfl rfl rfl HA.out hLn ?_;intro s3 w3 hH3)
   go_roundw
   case rel=>exact⟨k+1,s3,L',by omega,by go_num,rfl,hH3,ku.out⟩
   case measure=>simp[intOf];omega
  ·have HE:=Lib.hid (show L=l.map fZ by rw[HL.out,vO _ hlt])
   have hll:L.length=l.length:=by rw[HE.out,List.length_map]
   have hh:=(hH.hist (by unfold lim;omega)).out
   have hL0:0<L.length:=by omega
   rw[←HE.out]at HF ⊢
   clear hll
   go_wp2_with fail
   refine(xO _ _ L _ hh hL0 HF.out).mono ?_
   intro e w4 h4
   obtain⟨s4,rfl,hb4,hd4⟩:=bG.from h4 hH.b
   clear hH hh
   go_wp2_with fail
   go_ret
   rw[←HE.out]
   exact⟨s4,rfl,hb4,hd4⟩
theorem amU(s:Sl)(k:bn)(w:World)(hk:jq w s k)(hf:zk k):Calls Tryz.prog 183 #[.agg (aZ s k)] w (bG w (ja k)):=by
 have hfl:=NS hf
 have En:=Lib.hid (Nat.le_trans hfl (by decide:1600≤1000000))
 have e1:=rW (v:=k.version.toNat) (k:=3) (by decide) (by have:=hf.version;simp;omega)
 have e2:=Bh (f:=iw) (m:=295) (n:=4) (l:=k.keys) (fun k hk=>Eg (hf.keys k hk)) hf.few.2
 have e3:=Iw k.df
 have e4:=zh (v:=k.dH.toNat) (k:=3) (by decide) (by have:=hf.dH;simp;omega)
 have e5:=Iu k.created.toNat
 obtain⟨f1,f2,f3,f4,f5,f6⟩:=hf
 have HE:Hid (∀x∈[eQ k.version.toNat,di (k.keys.map iw),jL k.df,fP k.dH.toNat,lH k.created.toNat],x.length≤1000000):=by
  intro x hx
  simp only[List.mem_cons,List.not_mem_nil,or_false]at hx
  rcases hx with rfl|rfl|rfl|rfl|rfl<;>omega
 have HK:=Lib.hid f2
 have hB0:Below w.heap.size w (w.alloc (.cells (aZ s k) 67)):=aj (Below.refl _ _) _
 have nX:=kP.later hB0 hk.1
 have HT:=Lib.hid (show ja k=lZ [eQ k.version.toNat,di (k.keys.map iw),jL k.df,fP k.dH.toNat,lH k.created.toNat] from rfl)
 have hn4:k.keys.length≤16:=by omega
 rw[HT.out]
 clear hfl e1 e2 e3 e4 e5 f2
 go_enter Tryz.func183,Tryz.ntmps183
 go_wp2_with fail
 refine qH (Below.refl _ (w.alloc (.cells (aZ s k) 67))) (by kernel_rfl) (by kernel_rfl) ?_
 intro v0 hv0
 have hP0:Ps (w.alloc (.cells (aZ s k) 67)) v0 []:=⟨hv0,by simp⟩
 repeat (first|(refine ak (by rfl) ?_)|(refine aI (by rfl) (by rfl) (fun K hK=>?_);go_big_quiet_op;refine hK _ ?_;clear hK K))
 refine aK (by rfl) (by rfl) (fun K hK=>?_)
 go_wp2_with fail
 refine(IW _ _ f1.1 (by omega)).mono ?_
 rintro e v1 ⟨s1,rfl,hb1,hd1⟩
 have hP1:=hP0.add hb1 hd1.out
 clear hP0 hb1 hd1
 refine hK _ _ (aA hP1.b) ?_
 clear hK K
 repeat (first|(refine ak (by rfl) ?_)|(refine aI (by rfl) (by rfl) (fun K hK=>?_);go_big_quiet_op;refine hK _ ?_;clear hK K))
 refine aK (by rfl) (by rfl) (fun K hK=>?_)
 go_wp2_with fail
 refine(amS _ _ k.keys _ (nX.later hP1.b) HK.out hn4).mono ?_
 rintro e v2 ⟨s2,rfl,hb2,hd2⟩
 have hP2:=hP1.add hb2 hd2.out
 clear hP1 hb2 hd2
 refine hK _ _ (aA hP2.b) ?_
 clear hK K
 repeat (first|(refine ak (by rfl) ?_)|(refine aI (by rfl) (by rfl) (fun K hK=>?_);go_big_quiet_op;refine hK _ ?_;clear hK K))
 refine aK (by rfl) (by rfl) (fun K hK=>?_)
 go_wp2_with fail
 refine(Y5 _ _ (by omega)).mono ?_
 rintro e v3 ⟨s3,rfl,hb3,hd3⟩
 have hP3:=hP2.add hb3 hd3.out
 clear hP2 hb3 hd3
 refine hK _ _ (aA hP3.b) ?_
 clear hK K
 repeat (first|(refine ak (by rfl) ?_)|(refine aI (by rfl) (by rfl) (fun K hK=>?_);go_big_quiet_op;refine hK _ ?_;clear hK K))
 refine aK (by rfl) (by rfl) (fun K hK=>?_)
 go_wp2_with fail
 refine(EF _ _ f5.1 (by omega)).mono ?_
 rintro e v4 ⟨s4,rfl,hb4,hd4⟩
 have kz:=hP3.add hb4 hd4.out
 clear hP3 hb4 hd4
 refine hK _ _ (aA kz.b) ?_
 clear hK K
 repeat (first|(refine ak (by rfl) ?_)|(refine aI (by rfl) (by rfl) (fun K hK=>?_);go_big_quiet_op;refine hK _ ?_;clear hK K))
 refine aK (by rfl) (by rfl) (fun K hK=>?_)
 go_wp2_with fail
 refine(YX _ _ f6.1 f6.2).mono ?_
 rintro e v5 ⟨s5,rfl,hb5,hd5⟩
 have jM:=kz.add hb5 hd5.out
 clear kz hb5 hd5
 refine hK _ _ (aA jM.b) ?_
 clear hK K
 repeat (first|(refine ak (by rfl) ?_)|(refine aI (by rfl) (by rfl) (fun K hK=>?_);go_big_quiet_op;refine hK _ ?_;clear hK K))
 refine aK (by rfl) (by rfl) (fun K hK=>?_)
 go_wp2_with fail
 refine hK _ _ (aA (aj jM.b _)) ?_
 clear hK K
 repeat (first|(refine ak (by rfl) ?_)|(refine aI (by rfl) (by rfl) (fun K hK=>?_);go_big_quiet_op;refine hK _ ?_;clear hK K))
 refine aK (by rfl) (by rfl) (fun K hK=>?_)
 go_wp2_with fail
 have hbn:=aj jM.b (.cells (nN [(s1,eQ k.version.toNat),(s2,di (k.keys.map iw)),(s3,jL k.df),(s4,fP k.dH.toNat),(s5,lH k.created.toNat)]) 61)
 refine(Y3 v5.heap.size (w.alloc (.cells (aZ s k) 67)).heap.size _ [(s1,eQ k.version.toNat),(s2,di (k.keys.map iw)),(s3,jL k.df),(s4,fP k.dH.toNat),(s5,lH k.created.toNat)] _ (World.alloc_heap_new _ _) jM.b.size (fun x hx=>BytesAt.later (aj (Below.refl _ _) _) (jM.at_ x hx)) (by simp) (by simp) (fun x hx=>HE.out x.2 (by have:=List.mem_map_of_mem (f:=Prod.snd) hx;exact this)) En.out).mono ?_
 rintro e vz ⟨sz,rfl,hbz,hdz⟩
 have sF:=hbn.trans hbz
 have HB:=Lib.hid (And.intro (ag hB0 sF) (hdz.to (S1:=fresh w.heap.size vz) (fun _ _=>rfl) (fun j hj=>⟨Nat.le_trans (ag hB0 hbn).size hj.1,hj.2⟩)))
 clear jM hbz hdz hbn
 refine hK _ _ (aA sF) ?_
 clear hK K
 repeat (first|(refine ak (by rfl) ?_)|(refine aI (by rfl) (by rfl) (fun K hK=>?_);go_big_quiet_op;refine hK _ ?_;clear hK K))
 refine bQ ?_
 go_wp2_with fail
 go_ret
 exact⟨sz,rfl,HB.out.1,HB.out.2⟩
theorem amV(a:Option Addr)(cap:Nat)(l:List bn)(w:World)(h:mg w a l)(hok:∀p∈l,zk p)(h16:l.length≤16):Calls Tryz.prog 182 #[.slice a l.length cap,.func (.func 183) #[] #[]] w (bG w (di (l.map ja))):=by
 rcases aV.addr h with h0|⟨b,o,rfl,hb⟩
 ·obtain rfl:l=[]:=List.eq_nil_of_length_eq_zero h0
  go_enter Tryz.func182,Tryz.ntmps182
  go_wp2_with fail
  go_ret
  exact pG (Below.refl _ _)
 by_cases h0:l.length=0
 ·obtain rfl:l=[]:=List.eq_nil_of_length_eq_zero h0
  go_enter Tryz.func182,Tryz.ntmps182
  go_wp2_with fail
  go_ret
  exact pG (Below.refl _ _)
 have hl0:((l.length:Int) == 0)=false:=beq_eq_false_iff_ne.2 (by omega)
 have HK:=Lib.hid hok
 have hfl:=map_le (f:=ja) (m:=1605) (n:=16) (l:=l) (fun p hp=>NT (hok p hp)) h16
 have HF:=Lib.hid (Nat.le_trans hfl (by decide:16*1605≤1000000))
 have HT:=Lib.hid (show di (l.map ja)=dN (l.map ja) by unfold di;rw[if_neg (by rw[List.length_map];exact h0)])
 have hpos:0<l.length:=by omega
 rw[HT.out]
 clear hok hfl h0
 go_enter Tryz.func182,Tryz.ntmps182
 go_wp2_with fail
 go_loopw [5,13] (fun bv iv wr=>∃(k:Nat) (so:Sl) (L:List (List UInt8)),k≤l.length∧iv=.int .i64 k∧bv=.slice so.a L.length so.cap∧gY 61 w wr so L∧Hid (L=(l.take k).map ja)) (fun _ iv _=>l.length-(intOf iv).toNat)
 case atStart=>exact⟨0,⟨none,0⟩,[],Nat.zero_le _,rfl,rfl,gY.none _ (Below.refl _ _),rfl⟩
 case round=>
  obtain⟨k,so,L,hk,rfl,rfl,hH,HL⟩:=hrel
  by_cases hlt:k<l.length
  ·obtain⟨t,hrow,hp⟩:=(h.later hH.b).at k hlt
   obtain⟨L',hL'⟩:∃L',L'=(l.take (k+1)).map ja:=⟨_,rfl⟩
   obtain⟨x,hx⟩:∃x,x=ja l[k]:=⟨_,rfl⟩
   have HA:=Lib.hid (show L'=L++[x] by rw[hL',hx,vN _ hlt HL.out])
   have hLn:L'.length≤1000000:=by rw[hL',List.length_map,List.length_take];omega
   have ku:=Lib.hid hL'
   have HX:=Lib.hid hx
   clear hL' hx
   go_wp2_with fail
   have hbn:Below wr.heap.size wr (wr.alloc (.cells (aZ t l[k]) 67)):=aj (Below.refl _ _) _
   refine(amU _ l[k] _ (jq.later hbn hp) (HK.out _ (List.getElem_mem hlt))).mono ?_
   rw[←HX.out]
   rintro e w2 ⟨s2,rfl,hb2,hd2⟩
   have hb2':=ag hbn hb2
   have zD:bD w2 (fresh wr.heap.size w2) (fun y=>BytesAt y s2.a x):=hd2.to (fun _ _=>rfl) (fun j hj=>⟨by have:=hj.1;simp at this;omega,hj.2⟩)
   clear hbn hb2 hd2
   go_wp2_with (at_builtin;refine rX (L:=L') rfl _ _ _ rfl pW hH hb2' zD rfl rfl rfl rfl HA.out hLn ?_;intro s3 w3 hH3)
   go_roundw
   case rel=>exact⟨k+1,s3,L',by omega,by go_num,rfl,hH3,ku.out⟩
   case measure=>simp[intOf];omega
  ·have HE:=Lib.hid (show L=l.map ja by rw[HL.out,vO _ hlt])
   have hll:L.length=l.length:=by rw[HE.out,List.length_map]
   have hh:=(hH.hist (by unfold lim;omega)).out
   have hL0:0<L.length:=by omega
   rw[←HE.out]at HF ⊢
   clear hll
   go_wp2_with fail
   refine(xO _ _ L _ hh hL0 HF.out).mono ?_
   intro e w4 h4
   obtain⟨s4,rfl,hb4,hd4⟩:=bG.from h4 hH.b
   clear hH hh
   go_wp2_with fail
   go_ret
   rw[←HE.out]
   exact⟨s4,rfl,hb4,hd4⟩
theorem amW(r:aN)(d:Entry)(w:World)(he:bJ w r d)(hf:zl d):Calls Tryz.prog 106 #[.agg (ae r d)] w (bG w (pF d)):=by
 have hB0:Below w.heap.size w (w.alloc (.cells (ae r d) 47)):=aj (Below.refl _ _) _
 have nM:=he.later hB0
 have HE:=Lib.hid (fun x hx=>Nat.le_trans (NV hf x hx) (by decide:26000≤1000000))
 have En:=Lib.hid (Nat.le_trans (NW hf) (by decide:416080≤1000000))
 have HT:=Lib.hid (show pF d=lZ (oG d) from rfl)
 obtain⟨f1,f2,f3,f4,f5,f6,f7,f8,f9,f10,f11,f12,f13,f14,f15,f16⟩:=hf
 have F1:=Lib.hid f1;have F2:=Lib.hid f2;have F5:=Lib.hid f5;have Y8:=Lib.hid f14;have Y9:=Lib.hid f15;have Za:=Lib.hid f16
 have F3:=Lib.hid f3;have F4:=Lib.hid f4;have F6:=Lib.hid f6;have F7:=Lib.hid f7;have F8:=Lib.hid f8;have F9:=Lib.hid f9;have F10:=Lib.hid f10;have F11:=Lib.hid f11;have Zb:=Lib.hid f12;have Zc:=Lib.hid f13
 clear f1 f2 f5 f14 f15 f16 f4 f6 f7 f8 f9 f10 f11 f12 f13
 rw[HT.out]
 go_enter Tryz.func106,Tryz.ntmps106
 go_wp2_with fail
 refine qH (Below.refl _ (w.alloc (.cells (ae r d) 47))) (by kernel_rfl) (by kernel_rfl) ?_
 intro v0 hv0
 have hP0:Ps (w.alloc (.cells (ae r d) 47)) v0 []:=⟨hv0,by simp⟩
 repeat (first|(refine ak (by rfl) ?_)|(refine aI (by rfl) (by rfl) (fun K hK=>?_);go_big_quiet_op;refine hK _ ?_;clear hK K))
 refine aK (by rfl) (by rfl) (fun K hK=>?_)
 go_wp2_with fail
 refine(Y7 _ _ _ (nM.name.later hP0.b) F1.out).mono ?_
 rintro e v1 ⟨s1,rfl,hb1,hd1⟩
 have hP1:=hP0.add hb1 hd1.out
 clear hP0 hb1 hd1
 refine hK _ _ (aA hP1.b) ?_
 clear hK K
 repeat (first|(refine ak (by rfl) ?_)|(refine aI (by rfl) (by rfl) (fun K hK=>?_);go_big_quiet_op;refine hK _ ?_;clear hK K))
 refine aK (by rfl) (by rfl) (fun K hK=>?_)
 go_wp2_with fail
 refine(OX _ _ _ _ (nM.aliases.later hP1.b) F2.out.1 F2.out.2).mono ?_
 rintro e v2 ⟨s2,rfl,hb2,hd2⟩
 have hP2:=hP1.add hb2 hd2.out
 clear hP1 hb2 hd2
 refine hK _ _ (aA hP2.b) ?_
 clear hK K
 repeat (first|(refine ak (by rfl) ?_)|(refine aI (by rfl) (by rfl) (fun K hK=>?_);go_big_quiet_op;refine hK _ ?_;clear hK K))
 refine aK (by rfl) (by rfl) (fun K hK=>?_)
 go_wp2_with fail
 refine(amF _ _ F3.out.1 (by have:=F3.out.2;omega)).mono ?_
 rintro e v3 ⟨s3,rfl,hb3,hd3⟩
 have hP3:=hP2.add hb3 hd3.out
 clear hP2 hb3 hd3
 refine hK _ _ (aA hP3.b) ?_
 clear hK K
 repeat (first|(refine ak (by rfl) ?_)|(refine aI (by rfl) (by rfl) (fun K hK=>?_);go_big_quiet_op;refine hK _ ?_;clear hK K))
 refine aK (by rfl) (by rfl) (fun K hK=>?_)
 go_wp2_with fail
 refine(EF _ _ F4.out.1 (by have:=F4.out;omega)).mono ?_
 rintro e v4 ⟨s4,rfl,hb4,hd4⟩
 have kz:=hP3.add hb4 hd4.out
 clear hP3 hb4 hd4
 refine hK _ _ (aA kz.b) ?_
 clear hK K
 repeat (first|(refine ak (by rfl) ?_)|(refine aI (by rfl) (by rfl) (fun K hK=>?_);go_big_quiet_op;refine hK _ ?_;clear hK K))
 refine aK (by rfl) (by rfl) (fun K hK=>?_)
 go_wp2_with fail
 refine(amV _ _ _ _ (nM.keys.later kz.b) F5.out.1 F5.out.2).mono ?_
 rintro e v5 ⟨s5,rfl,hb5,hd5⟩
 have jM:=kz.add hb5 hd5.out
 clear kz hb5 hd5
 refine hK _ _ (aA jM.b) ?_
 clear hK K
 repeat (first|(refine ak (by rfl) ?_)|(refine aI (by rfl) (by rfl) (fun K hK=>?_);go_big_quiet_op;refine hK _ ?_;clear hK K))
 refine aK (by rfl) (by rfl) (fun K hK=>?_)
 go_wp2_with fail
 refine(Y5 _ _ (Nat.le_trans F6.out (by decide))).mono ?_
 rintro e v6 ⟨s6,rfl,hb6,hd6⟩
 have oH:=jM.add hb6 hd6.out
 clear jM hb6 hd6
 refine hK _ _ (aA oH.b) ?_
 clear hK K
 repeat (first|(refine ak (by rfl) ?_)|(refine aI (by rfl) (by rfl) (fun K hK=>?_);go_big_quiet_op;refine hK _ ?_;clear hK K))
 refine aK (by rfl) (by rfl) (fun K hK=>?_)
 go_wp2_with fail
 refine(IX _ _ F7.out.1 F7.out.2).mono ?_
 rintro e v7 ⟨s7,rfl,hb7,hd7⟩
 have rY:=oH.add hb7 hd7.out
 clear oH hb7 hd7
 refine hK _ _ (aA rY.b) ?_
 clear hK K
 repeat (first|(refine ak (by rfl) ?_)|(refine aI (by rfl) (by rfl) (fun K hK=>?_);go_big_quiet_op;refine hK _ ?_;clear hK K))
 refine aK (by rfl) (by rfl) (fun K hK=>?_)
 go_wp2_with fail
 refine(IX _ _ F8.out.1 F8.out.2).mono ?_
 rintro e v8 ⟨s8,rfl,hb8,hd8⟩
 have pI:=rY.add hb8 hd8.out
 clear rY hb8 hd8
 refine hK _ _ (aA pI.b) ?_
 clear hK K
 repeat (first|(refine ak (by rfl) ?_)|(refine aI (by rfl) (by rfl) (fun K hK=>?_);go_big_quiet_op;refine hK _ ?_;clear hK K))
 refine aK (by rfl) (by rfl) (fun K hK=>?_)
 go_wp2_with fail
 refine(EF _ _ F9.out.1 (by have:=F9.out;omega)).mono ?_
 rintro e v9 ⟨s9,rfl,fH,hd9⟩
 have xI:=pI.add fH hd9.out
 clear pI fH hd9
 refine hK _ _ (aA xI.b) ?_
 clear hK K
 repeat (first|(refine ak (by rfl) ?_)|(refine aI (by rfl) (by rfl) (fun K hK=>?_);go_big_quiet_op;refine hK _ ?_;clear hK K))
 refine aK (by rfl) (by rfl) (fun K hK=>?_)
 go_wp2_with fail
 refine(EF _ _ F10.out.1 (by have:=F10.out;omega)).mono ?_
 rintro e v10 ⟨s10,rfl,Em,hd10⟩
 have zu:=xI.add Em hd10.out
 clear xI Em hd10
 refine hK _ _ (aA zu.b) ?_
 clear hK K
 repeat (first|(refine ak (by rfl) ?_)|(refine aI (by rfl) (by rfl) (fun K hK=>?_);go_big_quiet_op;refine hK _ ?_;clear hK K))
 refine aK (by rfl) (by rfl) (fun K hK=>?_)
 go_wp2_with fail
 refine(EF _ _ F11.out.1 (by have:=F11.out;omega)).mono ?_
 rintro e v11 ⟨s11,rfl,xF,hd11⟩
 have rZ:=zu.add xF hd11.out
 clear zu xF hd11
 refine hK _ _ (aA rZ.b) ?_
 clear hK K
 repeat (first|(refine ak (by rfl) ?_)|(refine aI (by rfl) (by rfl) (fun K hK=>?_);go_big_quiet_op;refine hK _ ?_;clear hK K))
 refine aK (by rfl) (by rfl) (fun K hK=>?_)
 go_wp2_with fail
 refine(IX _ _ Zb.out.1 Zb.out.2).mono ?_
 rintro e v12 ⟨s12,rfl,dW,xG⟩
 have nK:=rZ.add dW xG.out
 clear rZ dW xG
 refine hK _ _ (aA nK.b) ?_
 clear hK K
 repeat (first|(refine ak (by rfl) ?_)|(refine aI (by rfl) (by rfl) (fun K hK=>?_);go_big_quiet_op;refine hK _ ?_;clear hK K))
 refine aK (by rfl) (by rfl) (fun K hK=>?_)
 go_wp2_with fail
 refine(IX _ _ Zc.out.1 Zc.out.2).mono ?_
 rintro e v13 ⟨s13,rfl,kU,xJ⟩
 have IY:=nK.add kU xJ.out
 clear nK kU xJ
 refine hK _ _ (aA IY.b) ?_
 clear hK K
 repeat (first|(refine ak (by rfl) ?_)|(refine aI (by rfl) (by rfl) (fun K hK=>?_);go_big_quiet_op;refine hK _ ?_;clear hK K))
 refine aK (by rfl) (by rfl) (fun K hK=>?_)
 go_wp2_with fail
 refine(OX _ _ _ _ (nM.targets.later IY.b) Y8.out.1 Y8.out.2).mono ?_
 rintro e v14 ⟨s14,rfl,oq,Eo⟩
 have xK:=IY.add oq Eo.out
 clear IY oq Eo
 refine hK _ _ (aA xK.b) ?_
 clear hK K
 repeat (first|(refine ak (by rfl) ?_)|(refine aI (by rfl) (by rfl) (fun K hK=>?_);go_big_quiet_op;refine hK _ ?_;clear hK K))
 refine aK (by rfl) (by rfl) (fun K hK=>?_)
 go_wp2_with fail
 refine(OX _ _ _ _ (nM.bu.later xK.b) Y9.out.1 Y9.out.2).mono ?_
 rintro e v15 ⟨s15,rfl,vP,Ep⟩
 have xM:=xK.add vP Ep.out
 clear xK vP Ep
 refine hK _ _ (aA xM.b) ?_
 clear hK K
 repeat (first|(refine ak (by rfl) ?_)|(refine aI (by rfl) (by rfl) (fun K hK=>?_);go_big_quiet_op;refine hK _ ?_;clear hK K))
 refine aK (by rfl) (by rfl) (fun K hK=>?_)
 go_wp2_with fail
 refine(amT _ _ _ _ (nM.history.later xM.b) Za.out.1 Za.out.2).mono ?_
 rintro e v16 ⟨s16,rfl,hb16,Es⟩
 have uD:=xM.add hb16 Es.out
 clear xM hb16 Es
 refine hK _ _ (aA uD.b) ?_
 clear hK K
 repeat (first|(refine ak (by rfl) ?_)|(refine aI (by rfl) (by rfl) (fun K hK=>?_);go_big_quiet_op;refine hK _ ?_;clear hK K))
 refine aK (by rfl) (by rfl) (fun K hK=>?_)
 go_wp2_with fail
 refine hK _ _ (aA (aj uD.b _)) ?_
 clear hK K
 repeat (first|(refine ak (by rfl) ?_)|(refine aI (by rfl) (by rfl) (fun K hK=>?_);go_big_quiet_op;refine hK _ ?_;clear hK K))
 refine aK (by rfl) (by rfl) (fun K hK=>?_)
 go_wp2_with fail
 have hbn:=aj uD.b (.cells (nN [(s1,fD d.name),(s2,di (d.aliases.map fD)),(s3,uz d.attrs.toNat),(s4,fP d.dP.toNat),(s5,di (d.keys.map ja)),(s6,jL d.aO),(s7,iZ d.ik.toNat),(s8,iZ d.iq.toNat),(s9,fP d.gQ.toNat),(s10,fP d.gU.toNat),(s11,fP d.fails.toNat),(s12,iZ d.eY.toNat),(s13,iZ d.gy.toNat),(s14,di (d.targets.map fD)),(s15,di (d.bu.map fD)),(s16,di (d.history.map fZ))]) 61)
 refine(Y3 v16.heap.size (w.alloc (.cells (ae r d) 47)).heap.size _ [(s1,fD d.name),(s2,di (d.aliases.map fD)),(s3,uz d.attrs.toNat),(s4,fP d.dP.toNat),(s5,di (d.keys.map ja)),(s6,jL d.aO),(s7,iZ d.ik.toNat),(s8,iZ d.iq.toNat),(s9,fP d.gQ.toNat),(s10,fP d.gU.toNat),(s11,fP d.fails.toNat),(s12,iZ d.eY.toNat),(s13,iZ d.gy.toNat),(s14,di (d.targets.map fD)),(s15,di (d.bu.map fD)),(s16,di (d.history.map fZ))] _ (World.alloc_heap_new _ _) uD.b.size (fun x hx=>BytesAt.later (aj (Below.refl _ _) _) (uD.at_ x hx)) (by simp) (by simp) (fun x hx=>HE.out x.2 (by have:=List.mem_map_of_mem (f:=Prod.snd) hx;exact this)) En.out).mono ?_
 rintro e vz ⟨sz,rfl,hbz,hdz⟩
 have sF:=hbn.trans hbz
 have HB:=Lib.hid (And.intro (ag hB0 sF) (hdz.to (S1:=fresh w.heap.size vz) (fun _ _=>rfl) (fun j hj=>⟨Nat.le_trans (ag hB0 hbn).size hj.1,hj.2⟩)))
 clear uD hbz hdz hbn
 refine hK _ _ (aA sF) ?_
 clear hK K
 repeat (first|(refine ak (by rfl) ?_)|(refine aI (by rfl) (by rfl) (fun K hK=>?_);go_big_quiet_op;refine hK _ ?_;clear hK K))
 refine bQ ?_
 go_wp2_with fail
 go_ret
 exact⟨sz,rfl,HB.out.1,HB.out.2⟩
theorem amX(r:aN)(d:Entry)(w:World)(he:bJ w r d)(hok:bT d=true):Calls Tryz.prog 62 #[.agg (ae r d)] w fun e w'=>∃s:Sl,e=.returned (.tuple #[.slice s.a (pF d).length s.cap,.int .i64 0])∧Below w.heap.size w w'∧BytesAt w' s.a (pF d):=by
 have hB0:Below w.heap.size w (w.alloc (.cells (ae r d) 47)):=aj (Below.refl _ _) _
 have nM:=he.later hB0
 have HF:=Lib.hid (N7 hok he.attrs.1)
 go_enter Tryz.func62,Tryz.ntmps62
 go_wp2_with fail
 refine(CU _ _ _ nM).mono ?_
 rintro e w1 ⟨rfl,hb1⟩
 rw[hok]
 obtain⟨hcc,aS,hrr⟩:=aY hb1
 have hsz:w.heap.size<w1.heap.size:=by have:=hb1.size;simp at this;omega
 go_wp2_with fail
 refine(amW _ _ _ (nM.later hb1) HF.out).mono ?_
 rintro e w2 ⟨s2,rfl,hb2,hd2⟩
 have HB:=Lib.hid (And.intro (ag (ag hB0 hb1) hb2) hd2.out)
 clear nM hcc aS hrr hb1 hb2 hd2
 go_wp2_with fail
 go_ret2
 exact⟨s2,rfl,HB.out.1,HB.out.2⟩
def aqO(w:World)(l:List (List UInt8))(e:Ending)(w':World):Prop:=∃s:Sl,e=.returned (.slice s.a l.length s.cap)∧Below w.heap.size w w'∧fG w' s.a l
end Go.Proofs.YtfieenjdcpjmgaaGreatDoor
namespace Go.Proofs
open Go.Shelf
def Tryz.lays106_ren:Go.Shelf.Ren:=⟨fun|106=>109|213=>189|265=>269|n=>n,fun|9=>9|3=>3|n=>n,fun|n=>n⟩
theorem Tryz.lays106:Go.Proofs.Lays.n106 Tryz.prog Tryz.lays106_ren:={
 mixed:=by kernel_rfl
 f106:=Tryz.func109.trans (congrArg some (by kernel_rfl))
 f213:=Tryz.func189.trans (congrArg some (by kernel_rfl))
 f265:=Tryz.func269.trans (congrArg some (by kernel_rfl))
 t3:=Tryz.underlying3
 a3:=Tryz.isAgg3
 z3:=Tryz.sizeOf3
 v3:=Tryz.zeroValue3
 t9:=Tryz.underlying9
 a9:=Tryz.isAgg9
 z9:=Tryz.sizeOf9
 v9:=Tryz.zeroValue9}
open Go.RowKit in
theorem Tryz.strings_Compare(a b:ByteArray)(w:World) :
  Calls Tryz.prog 109 #[.string a,.string b] w fun e w'=>e=.returned (.int .i64 (Lib.compareBytes a.data.toList b.data.toList))∧w'=w:=Any.strings_Compare Tryz.lays106 a b w
end Go.Proofs
namespace Go.WW
open Go.RowKit
theorem Zd:∀a b:List UInt8,Lib.compareBytes a b=if Op.bytesLess a b then -1 else if Op.bytesLess b a then 1 else 0
 | [],[]=>by simp[Lib.compareBytes,Op.bytesLess]
 | [],_::_=>by simp[Lib.compareBytes,Op.bytesLess]
 |_::_,[]=>by simp[Lib.compareBytes,Op.bytesLess]
 |a::l,b::m=>by
  have ih:=Zd l m
  unfold Lib.compareBytes Op.bytesLess
  by_cases h1:a<b
  ·simp[h1]
  ·by_cases h2:b<a
   ·have hne:¬a=b:=fun e=>by subst e;exact h1 h2
    simp[h1,h2,hne]
   ·have e:a=b:=by
     apply UInt8.le_antisymm
     ·exact UInt8.not_lt.1 h2
     ·exact UInt8.not_lt.1 h1
    subst e
    simp[h1,ih]
theorem amY(a b:ByteArray):Lib.compareBytes a.data.toList b.data.toList=dw a b:=by
 unfold dw;rw[ByteArray.toList_eq,ByteArray.toList_eq];exact Zd _ _
def mZ(w:World)(a:Option Addr)(X:List ah):Prop:=aV w 10 a X.length fun i cs=>∃x,X[i]?=some x∧cs=aG x
theorem mZ.later{w w':World}(h:Below w.heap.size w w'){a:Option Addr}{X:List ah}(x:mZ w a X):mZ w' a X:=aV.later h (fun _ _ y=>y) x
theorem mZ.at{w:World}{b o:Nat}{X:List ah}(x:mZ w (some ⟨b,o,none⟩) X)(i:Nat)(h:i<X.length):row? w b (o+i*10) 10=some (aG X[i]):=by
 obtain⟨b',o',cs,ha,hr,y,hy,rfl⟩:=x.2 i h
 cases ha
 rw[List.getElem?_eq_getElem h]at hy
 cases hy;exact hr
theorem mZ.ed{w:World}{base:Nat}{e:TypeId}{s:Sl}{X:List ah}(h:Own w base e 10 s (X.map aG))(hn:X.length≤lim):mZ w s.a X:=
 aV.ed h (by simp) hn (fun i hi=>⟨X[i]'(by simpa using hi),List.getElem?_eq_getElem (by simpa using hi),by simp⟩)
theorem mZ.put{w:World}{g:Nat}{Y:List ah}(h:mZ w (some ⟨g,0,none⟩) Y)(ho:Open w g (Y.length*10)){i:Nat}(hi:i<Y.length)(x:ah):mZ (putRow w g (0+i*10) (aG x)) (some ⟨g,0,none⟩) (Y.set i x):=by
 refine⟨by simpa using h.1,fun j hj=>?_⟩
 have hj':j<Y.length:=by simpa using hj
 have hs:=zV x
 by_cases e:j=i
 ·subst e
  exact⟨g,0,_,rfl,UE ho (zV x) (by omega),x,by simp[hj'],rfl⟩
 ·obtain⟨b,o,cs,ha,hr,y,hy,rfl⟩:=h.2 j hj'
  cases ha
  refine⟨g,0,_,rfl,(UD ho (by omega) (by omega)).trans hr,y,by rw[List.getElem?_set_ne (by omega)];exact hy,rfl⟩
theorem mZ.block{w x:World}{g:Nat}{Y:List ah}(h:mZ w (some ⟨g,0,none⟩) Y)(e:x.heap[g]?=w.heap[g]?):mZ x (some ⟨g,0,none⟩) Y:=by
 refine⟨h.1,fun i hi=>?_⟩
 obtain⟨b,o,cs,ha,hr,hy⟩:=h.2 i hi
 cases ha
 exact⟨g,0,cs,rfl,(ig e _ _).trans hr,hy⟩
theorem Own.amZ{w:World}{base:Nat}{e:TypeId}{s:Sl}{rows:List (Array Value)}{g:Nat}(h:Own w base e 10 s rows)(hg:s.a=some ⟨g,0,none⟩):Open w g (rows.length*10):=by
 rcases h.own.2 with⟨hv,_⟩|⟨g',cap,cur,hv,_,hh,hle,_,hsz,_⟩
 ·rw[hg]at hv;cases hv
 ·have ha:s.a=some ⟨g',0,none⟩:=by injection hv
  rw[hg]at ha;cases ha
  exact⟨cur,e,hh,by rw[hsz];exact Nat.mul_le_mul_right _ hle⟩
abbrev ng(q:ah):ByteArray:=q.name
end Go.WW
namespace Go.Proofs.YtfieenjdcpjmgaaGreatDoor
open Go.RowKit Go.WW
theorem am0:fQ Tryz.prog 30 50 10 88:=fQ.of Tryz.underlying30 (by kernel_rfl)
theorem Ze(p q:ah)(w:World):Calls Tryz.prog 108 #[.agg (aG p),.agg (aG q)] w fun e w'=>e=.returned (.int .i64 (dw p.name q.name))∧Below w.heap.size w w':=by
 have hB:Below w.heap.size w ((w.alloc (.cells (aG p) 50)).alloc (.cells (aG q) 50)):=((Below.refl _ _).alloc (Nat.le_refl _) _).alloc (by simp) _
 go_enter Tryz.func108,Tryz.ntmps108
 go_wp2_with fail
 refine(Tryz.strings_Compare _ _ _).mono ?_
 rintro e w' ⟨rfl,rfl⟩
 go_wp2_with fail
 go_ret
 exact⟨by rw[amY];rfl,hB⟩
end Go.Proofs.YtfieenjdcpjmgaaGreatDoor
namespace Go.WW
open Go.RowKit
def EG(w:World)(g:Nat)(T:TypeId):Prop:=∃c,w.heap[g]?=some (.cells c T)
theorem EG.put{w:World}{g n o:Nat}{T:TypeId}{cs:Array Value}(h:EG w g T)(ho:Open w g n)(hc:o+cs.size≤n):EG (putRow w g o cs) g T:=by
 obtain⟨c,hc1⟩:=h
 obtain⟨c',t',hc2,hn⟩:=ho
 rw[hc1]at hc2
 cases hc2
 exact⟨_,mD hc1 (by omega)⟩
structure kW(g:Nat)(X Y:List ah)(w0 w:World):Prop where
 perm:Y.Perm X
 but:But (·=g) w0 w
 rows:mZ w (some ⟨g,0,none⟩) Y
 opn:Open w g (Y.length*10)
 typ:EG w g 50
theorem kW.step{g:Nat}{X Y:List ah}{w0 w w':World}(h:kW g X Y w0 w)(hb:Below w.heap.size w w'):kW g X Y w0 w':=by
 obtain⟨c,t,hc,_⟩:=h.opn
 have e:=hb.block g (Array.getElem?_eq_some_iff.1 hc).1
 exact⟨h.perm,h.but.trans (But.of_below hb),h.rows.later hb,h.opn.at e,by obtain⟨c,hc⟩:=h.typ;exact⟨c,e.trans hc⟩⟩
theorem kW.drew{g:Nat}{X Y:List ah}{w0 w:World}(h:kW g X Y w0 w):kW g X Y w0 w.drew:=h.step (Below.refl _ _).drew
theorem kW.swap{g:Nat}{X Y:List ah}{w0 w:World}(h:kW g X Y w0 w){j:Nat}(h1:j+1<Y.length):kW g X ((Y.set (j+1) Y[j]).set j Y[j+1]) w0 (putRow (putRow w g ((j+1)*10) (aG Y[j])) g (j*10) (aG Y[j+1])):=by
 have r1:=h.rows.put h.opn h1 Y[j]
 have s1:=zV Y[j]
 have s2:=zV Y[j+1]
 have o1:Open (putRow w g (0+(j+1)*10) (aG Y[j])) g (Y.length*10):=h.opn.put (by omega)
 have r2:=r1.put (by simpa using o1) (i:=j) (by simp;omega) Y[j+1]
 rw[Nat.zero_add]at r2 o1
 rw[Nat.zero_add]at r2
 exact⟨(swap_perm h1).trans h.perm,(h.but.put rfl).put rfl,r2,by simpa using o1.put (by omega),(h.typ.put h.opn (by omega)).put o1 (by omega)⟩
end Go.WW
namespace Go.Proofs.YtfieenjdcpjmgaaGreatDoor
open Go.RowKit Go.WW
theorem am1(g cap:Nat)(X:List ah)(w:World)(hn:X.length≤12)(hX:kW g X X w w)(hD:(X.map ng).Nodup) :
  Calls Tryz.prog 321 #[.slice (some ⟨g,0,none⟩) X.length cap,.int .i64 0,.int .i64 X.length,.func (.func 108) #[] #[]] w fun e w'=>e=.returned (.tuple #[])∧∃Y,kW g X Y w w'∧Sorted dw ng Y:=by
 have HD:=Lib.hid hD
 clear hD
 go_enter Tryz.func321,Tryz.ntmps321
 go_wp2_with fail
 go_loopw [8] (fun iv wr=>∃(i:Nat) (Y:List ah),1≤i∧i≤13∧iv=.int .i64 i∧Hid (kW g X Y w wr)∧Hid (Sorted dw ng (Y.take i))) (fun iv _=>13-(intOf iv).toNat)
 case atStart=>exact⟨1,X,Nat.le_refl _,by omega,rfl,hX,by cases X<;>simp[Hid,Sorted]⟩
 case round=>
  obtain⟨i,Y,h1,h13,rfl,hS,hso⟩:=hrel
  have HL:=Lib.hid (hS.out.perm.length_eq)
  by_cases hlt:i<X.length
  ·have hki:(i:Int)<(X.length:Int):=by omega
   have HM:=Lib.hid (UB hso.out (by rw[HL.out];exact hlt))
   go_wp2_with fail
   clear hso HL
   go_loopw [9] (fun jv wr=>∃(j:Nat) (Y:List ah),j≤i∧jv=.int .i64 j∧Hid (kW g X Y w wr)∧Hid (Mid dw ng Y i j)) (fun jv _=>(intOf jv).toNat)
   case atStart=>exact⟨i,Y,Nat.le_refl _,rfl,hS,HM⟩
   case round=>
    clear hS HM
    obtain⟨j,Y,hj,rfl,hS,hM⟩:=hrel
    have HL:=Lib.hid (hS.out.perm.length_eq)
    cases j with
    |zero=>
     have HZ:=Lib.hid (mid_zero hM.out)
     go_wp2_with fail
     refine dO (Below.refl _ wr) (by kernel_rfl) (by kernel_rfl) ?_
     repeat (go_big_quiet_step (fail))
     refine wpQuiet_nil ?_
     intro w2 hb2
     have HS2:=Lib.hid (hS.out.step hb2)
     go_wp2_with fail
     go_roundw
     case rel=>exact⟨i+1,Y,by omega,by omega,by go_num,HS2.out,HZ.out⟩
     case measure=>simp[intOf];omega
    |succ j=>
     have hjl:j+1<Y.length:=by rw[HL.out];omega
     have hji:(0:Int)<((j+1:Nat):Int):=by omega
     have KE:((j+1:Nat):Int)<(X.length:Int):=by omega
     have hr1:=hS.out.rows.at (j+1) hjl
     have hr0:=hS.out.rows.at j (by omega)
     rw[Nat.zero_add]at hr1 hr0
     have hgw:g<wr.heap.size:=gG hr1
     by_cases hc:dw Y[j+1].name Y[j].name<0
     ·have oV:=Lib.hid (mid_step hM.out hjl hc)
      have HS2:=Lib.hid (fun w2 hb2=>((hS.out.step (w':=w2) hb2)).drew.swap hjl)
      generalize Y[j+1]=x at *
      generalize Y[j]=z at *
      go_wp2_with fail
      refine dO (Below.refl _ wr) (by kernel_rfl) (by kernel_rfl) ?_
      repeat (go_big_quiet_step ((go_at_call 108;rename_i xw;exact Calls.gK (Ze _ _ _))))
      refine wpQuiet_nil ?_
      intro w2 hb2
      go_wp2_with fail
      have hr1':row? w2 g ((j+1)*10) 10=some (aG x):=(ig (hb2.block g hgw) _ _).trans hr1
      have ag5:row? w2 g (j*10) 10=some (aG z):=(ig (hb2.block g hgw) _ _).trans hr0
      have HO:=Lib.hid (hS.out.step hb2).opn
      have hp1:aQ w2 g ((j+1)*10) 10=true:=HO.out.can (by omega)
      have hp0:aQ (putRow w2.drew g ((j+1)*10) (aG z)) g (j*10) 10=true:=Open.can (n:=Y.length*10) (Open.put (HO.out.at rfl) (by show(j+1)*10+10≤_;omega)) (by omega)
      have yz:Hid (kW g X ((Y.set (j+1) z).set j x) w (putRow (putRow w2.drew g ((j+1)*10) (aG z)) g (j*10) (aG x))):=HS2.out w2 hb2
      clear hr1 hr0 HS2 HO
      refine T3.UG (·=g) (But.refl _ w2) (by kernel_rfl) (by kernel_rfl) ?_
      repeat (first|(refine T3.ak (by rfl) ?_)|(refine T3.aI (by rfl) (by rfl) (fun K hK=>?_);go_big_quiet_op;refine hK _ ?_;clear hK K)|(refine T3.Ap (by rfl) (by rfl) (fun K hK=>?_);go_wp2_with fail))
      refine T3.aK (by rfl) (by rfl) (fun K hK=>?_)
      go_wp2_with fail
      have HB1:=Lib.hid (But.put (g:=g) (o:=(j+1)*10) (cs:=aG z) (S:=(·=g)) (But.refl _ w2).drew rfl)
      generalize putRow w2.drew g ((j+1)*10) (aG z)=V at *
      refine hK _ _ (cu HB1.out) ?_
      clear hK K
      repeat (first|(refine T3.ak (by rfl) ?_)|(refine T3.aI (by rfl) (by rfl) (fun K hK=>?_);go_big_quiet_op;refine hK _ ?_;clear hK K)|(refine T3.Ap (by rfl) (by rfl) (fun K hK=>?_);go_wp2_with fail))
      refine T3.aK (by rfl) (by rfl) (fun K hK=>?_)
      go_wp2_with fail
      have HB2:=Lib.hid (But.put (g:=g) (o:=j*10) (cs:=aG x) HB1.out rfl)
      generalize putRow V g (j*10) (aG x)=U at *
      refine hK _ _ (cu HB2.out) ?_
      clear hK K
      repeat (first|(refine T3.ak (by rfl) ?_)|(refine T3.aI (by rfl) (by rfl) (fun K hK=>?_);go_big_quiet_op;refine hK _ ?_;clear hK K)|(refine T3.Ap (by rfl) (by rfl) (fun K hK=>?_);go_wp2_with fail))
      refine T3.bQ ?_
      go_wp2_with fail
      go_roundw
      case rel=>exact⟨j,(Y.set (j+1) z).set j x,by omega,rfl,yz,oV⟩
      case measure=>simp[intOf]
     ·have HZ:=Lib.hid (UC oP hM.out hjl ((hS.out.perm.map ng).nodup_iff.2 HD.out) hc)
      generalize Y[j+1]=x at *
      generalize Y[j]=z at *
      go_wp2_with fail
      refine dO (Below.refl _ wr) (by kernel_rfl) (by kernel_rfl) ?_
      repeat (go_big_quiet_step ((go_at_call 108;rename_i xw;exact Calls.gK (Ze _ _ _))))
      refine wpQuiet_nil ?_
      intro w2 hb2
      have HS2:=Lib.hid (hS.out.step hb2)
      go_wp2_with fail
      go_roundw
      case rel=>exact⟨i+1,Y,by omega,by omega,by go_num,HS2.out,HZ.out⟩
      case measure=>simp[intOf];omega
  ·have hki:¬(i:Int)<(X.length:Int):=by omega
   go_wp2_with fail
   go_end0
   exact⟨rfl,Y,hS.out,by have:=hso.out;rwa[List.take_of_length_le (by rw[HL.out];omega)]at this⟩
end Go.Proofs.YtfieenjdcpjmgaaGreatDoor
