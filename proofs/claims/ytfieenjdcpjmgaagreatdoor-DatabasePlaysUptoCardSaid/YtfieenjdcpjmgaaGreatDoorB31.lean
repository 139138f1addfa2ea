/- A part of the proof. -/
import Derived.Test.YtfieenjdcpjmgaaGreatDoorB30
import Derived.Test.YtfieenjdcpjmgaaGreatDoorProg
import Derived.Shelf.Small.Strs
import Derived.Test.YtfieenjdcpjmgaaGreatDoorB13
import Derived.Test.YtfieenjdcpjmgaaGreatDoorB09
import Derived.Test.YtfieenjdcpjmgaaGreatDoorB07
set_option maxRecDepth 100000
set_option maxHeartbeats 16000000
namespace Go.Proofs.YtfieenjdcpjmgaaGreatDoor
open Go.RowKit Go.WW
theorem anG(s:Sl)(p:az)(w:World)(hp:bn w s p)(hok:bG p=true):Calls Tryz.prog 259 #[.agg (ah s p)] w fun e w'=>∃s':Sl,e=.returned (.tuple #[.slice s'.a (fG p).length s'.cap,.int .i64 0])∧Below w.heap.size w w'∧bH w' (fresh w.heap.size w') fun x=>BytesAt x s'.a (fG p):=by
 obtain⟨hpn,hps,hpr⟩:=Es hok
 have hp0:0<p.parts.length:=List.length_pos_iff.2 (tu hok)
 have hB0:Below w.heap.size w (w.alloc (.cells (ah s p) 40)):=aj (Below.refl _ _) _
 obtain⟨sa,scap⟩:=s
 obtain⟨b,o,ha,-,-⟩:=hp.1.get 0 hp0
 dsimp only at ha
 subst ha
 have hpL:=(hp.later hB0).1
 have ZM:=hp.later hB0
 have HS:=Lib.hid hps
 go_enter Tryz.func259,Tryz.ntmps259
 go_wp2_with fail
 refine(Ai _ _ _ ZM).mono ?_
 rintro e wv ⟨rfl,hbv⟩
 rw[hok]
 obtain⟨hcc,aT,hrr⟩:=bg hbv
 have hsz:w.heap.size<wv.heap.size:=by have:=hbv.size;simp at this;omega
 go_wp2_with fail
 have hcR:wv.cell? ⟨w.heap.size,1,none⟩=some (.string p.aG):=by rw[hcc _ _ (by simp)];simp[go_sem]
 have hBv:=ag hB0 hbv
 replace hpL:=hpL.later hbv
 clear hcc aT hrr ZM hbv
 go_loopw [4,13] (fun bv iv wr=>∃(k:Nat) (so:Sl) (L:List (List UInt8)),k≤p.parts.length∧iv=.int .i64 k∧bv=.slice so.a L.length so.cap∧iC 61 wv wr so L∧Hid (L=(p.parts.take k).map fC)) (fun _ i _=>p.parts.length-(intOf i).toNat)
 case atStart=>exact⟨0,⟨none,0⟩,[],Nat.zero_le _,rfl,rfl,iC.none _ (Below.refl _ _),rfl⟩
 case round=>
  obtain⟨k,so,L,hk,rfl,rfl,hH,HL⟩:=hrel
  obtain⟨hcc,aT,hrr⟩:=bg hH.b
  have BA:L.length=k:=by rw[HL.out];simp;omega
  have IV:=Lib.hid BA
  have hw1:wr.cell? ⟨w.heap.size,1,none⟩=some (.string p.aG):=(hcc _ _ hsz).trans hcR
  have hwl:w.heap.size<wr.heap.size:=World.block_lt_of_cell? wr _ hw1
  clear BA hcc aT hrr
  by_cases hlt:k<p.parts.length
  ·obtain⟨hck,hsk⟩:=(hpL.later hH.b).at k hlt
   have hbb:b<wr.heap.size:=World.block_lt_of_cell? wr _ hck
   have hsz:p.parts[k].size≤32:=HS.out _ (List.getElem_mem hlt)
   obtain⟨L',hL'⟩:∃L',L'=(p.parts.take (k+1)).map fC:=⟨_,rfl⟩
   obtain⟨x,hx⟩:∃x,x=fC p.parts[k]:=⟨_,rfl⟩
   have HA:=Lib.hid (show L'=L++[x] by rw[hL',hx,vT _ hlt HL.out])
   have hLn:L'.length≤1000000:=by rw[hL',List.length_map,List.length_take];omega
   have kE:=Lib.hid hL'
   have HX:=Lib.hid hx
   clear hL' hx
   go_wp2_with fail
   refine(PD _ _ (Nat.le_trans hsz (by decide))).mono ?_
   rw[←HX.out]
   rintro e w2 ⟨s2,rfl,hb2,hd2⟩
   go_wp2_with (at_builtin;refine sF (L:=L') rfl _ _ _ rfl qh hH hb2 hd2 rfl rfl rfl rfl HA.out hLn ?_;intro s3 w3 hH3)
   go_roundw
   case rel=>exact⟨k+1,s3,L',by omega,by go_num,rfl,hH3,kE.out⟩
   case measure=>simp[intOf];omega
  ·have HE:=Lib.hid (show L=p.parts.map fC by rw[HL.out,vU _ hlt])
   have hh:=hH.hist (by unfold lim;rw[IV.out];omega)
   have hfl:=Ot hok
   rw[←HE.out]at hfl
   have HL0:=Lib.hid (show 0<L.length by rw[IV.out];omega)
   have hT1:(dR L).length≤1000000:=by have:=uC L;omega
   have hT2:(fC p.aG).length≤1000000:=by have:=Ep p.aG;omega
   have zG:[bT 0 (dR L),bT 1 (fC p.aG)].flatten.length≤1000000:=by
    have h1:=Ou hok
    rw[←HE.out]at h1
    simp only[dX]at h1
    exact Nat.le_trans h1 (by decide)
   go_wp2_with fail
   refine pW (Below.refl _ wr) (by kernel_rfl) (by kernel_rfl) ?_
   intro w1 hb1
   repeat (first|(refine ax (by rfl) ?_)|(refine aI (by rfl) (by rfl) (fun K hK=>?_);go_big_quiet_op;refine hK _ ?_;clear hK K))
   refine aK (by rfl) (by rfl) (fun K hK=>?_)
   go_wp2_with fail
   refine(xY _ _ L _ (hh.out.later hb1) HL0.out (by omega)).mono ?_
   rintro e w2 ⟨s2,rfl,hb2,hd2⟩
   have hb2':=ag hb1 hb2
   refine hK _ _ (aA hb2') ?_
   clear hK K
   repeat (first|(refine ax (by rfl) ?_)|(refine aI (by rfl) (by rfl) (fun K hK=>?_);go_big_quiet_op;refine hK _ ?_;clear hK K))
   refine aK (by rfl) (by rfl) (fun K hK=>?_)
   go_wp2_with fail
   refine(Jc 0 0 _ _ (dR L) _ rfl (by decide) hd2.out hT1).mono ?_
   rintro e w3 ⟨s3,rfl,hb3,hd3⟩
   have tZ:=ag hb2' hb3
   refine hK _ _ (aA tZ) ?_
   clear hK K
   repeat (first|(refine ax (by rfl) ?_)|(refine aI (by rfl) (by rfl) (fun K hK=>?_);go_big_quiet_op;refine hK _ ?_;clear hK K))
   refine aK (by rfl) (by rfl) (fun K hK=>?_)
   go_wp2_with fail
   refine(PD _ _ (Nat.le_trans hpr (by decide))).mono ?_
   rintro e w4 ⟨s4,rfl,hb4,hd4⟩
   have jZ:=ag tZ hb4
   refine hK _ _ (aA jZ) ?_
   clear hK K
   repeat (first|(refine ax (by rfl) ?_)|(refine aI (by rfl) (by rfl) (fun K hK=>?_);go_big_quiet_op;refine hK _ ?_;clear hK K))
   refine aK (by rfl) (by rfl) (fun K hK=>?_)
   go_wp2_with fail
   refine(Jc 1 1 _ _ (fC p.aG) _ rfl (by decide) hd4.out hT2).mono ?_
   rintro e w5 ⟨s5,rfl,hb5,hd5⟩
   have jr:=ag jZ hb5
   refine hK _ _ (aA jr) ?_
   clear hK K
   repeat (first|(refine ax (by rfl) ?_)|(refine aI (by rfl) (by rfl) (fun K hK=>?_);go_big_quiet_op;refine hK _ ?_;clear hK K))
   refine aK (by rfl) (by rfl) (fun K hK=>?_)
   go_wp2_with fail
   refine hK _ _ (aA (aj jr _)) ?_
   clear hK K
   repeat (first|(refine ax (by rfl) ?_)|(refine aI (by rfl) (by rfl) (fun K hK=>?_);go_big_quiet_op;refine hK _ ?_;clear hK K))
   refine aK (by rfl) (by rfl) (fun K hK=>?_)
   go_wp2_with fail
   refine(xY _ _ [bT 0 (dR L),bT 1 (fC p.aG)] _ (fK.lit [(s3,bT 0 (dR L)),(s5,bT 1 (fC p.aG))] rfl rfl (fun x hx=>?_) (by simp[lim])) (by simp) zG).mono ?_
   ·simp only[List.mem_cons,List.not_mem_nil,or_false]at hx
    rcases hx with rfl|rfl
    ·exact(hd3.out.later hb4).later hb5
    ·exact hd5.out
   rintro e w6 ⟨s6,rfl,hb6,hd6⟩
   have lJ:=ag (aj jr _) hb6
   have hX:=ag (ag hBv hH.b) (aj jr (.cells #[.slice s3.a (bT 0 (dR L)).length s3.cap,.slice s5.a (bT 1 (fC p.aG)).length s5.cap] 61))
   have HB:=Lib.hid (And.intro (ag hX hb6) (hd6.to (S1:=fresh w.heap.size w6) (fun _ _=>rfl) (fun j hj=>⟨Nat.le_trans hX.size hj.1,hj.2⟩)))
   clear hX
   have HP:=Lib.hid (show fG p=dR [bT 0 (dR L),bT 1 (fC p.aG)] by rw[HE.out];rfl)
   clear hb2 hd2 hb3 hd3 hb4 hd4 hb5 hd5 hb6 hd6 hH hh
   refine hK _ _ (aA lJ) ?_
   clear hK K
   repeat (first|(refine ax (by rfl) ?_)|(refine aI (by rfl) (by rfl) (fun K hK=>?_);go_big_quiet_op;refine hK _ ?_;clear hK K))
   refine bV ?_
   go_wp2_with fail
   go_ret2
   rw[HP.out]
   exact⟨s6,rfl,HB.out.1,HB.out.2⟩
theorem ZN(s:Sl)(p:az)(w:World)(hp:bn w s p)(hok:bG p=true):Calls Tryz.prog 178 #[.agg (ah s p)] w (bI w (fG p)):=by
 have hB0:Below w.heap.size w (w.alloc (.cells (ah s p) 40)):=aj (Below.refl _ _) _
 have hpL:=hp.later hB0
 go_enter Tryz.func178,Tryz.ntmps178
 go_wp2_with fail
 refine(anG _ _ _ hpL hok).mono ?_
 rintro e w1 ⟨s1,rfl,hb1,hd1⟩
 obtain⟨s2,hs2,hb2,hd2⟩:=bI.from (W:=w) ⟨s1,rfl,hb1,hd1⟩ hB0
 clear hpL
 go_wp2_with fail
 go_ret
 exact⟨s2,by rw[←hs2];rfl,hb2,hd2⟩
theorem PH(a:Option Addr)(cap:Nat)(l:List az)(w:World)(h:fJ w a l)(hok:∀p∈l,bG p=true)(h16:l.length≤16):Calls Tryz.prog 179 #[.slice a l.length cap,.func (.func 178) #[] #[]] w (bI w (dm (l.map fG))):=by
 rcases aX.addr h with h0|⟨b,o,rfl,hb⟩
 ·obtain rfl:l=[]:=List.eq_nil_of_length_eq_zero h0
  go_enter Tryz.func179,Tryz.ntmps179
  go_wp2_with fail
  go_ret
  exact pK (Below.refl _ _)
 by_cases h0:l.length=0
 ·obtain rfl:l=[]:=List.eq_nil_of_length_eq_zero h0
  go_enter Tryz.func179,Tryz.ntmps179
  go_wp2_with fail
  go_ret
  exact pK (Below.refl _ _)
 have hl0:((l.length:Int) == 0)=false:=beq_eq_false_iff_ne.2 (by omega)
 have HK:=Lib.hid hok
 have hfl:=map_le (f:=fG) (m:=205) (n:=16) (l:=l) (fun p hp=>IP (hok p hp)) h16
 have HF:=Lib.hid (Nat.le_trans hfl (by decide:16*205≤1000000))
 have HT:=Lib.hid (show dm (l.map fG)=dR (l.map fG) by unfold dm;rw[if_neg (by rw[List.length_map];exact h0)])
 have hpos:0<l.length:=by omega
 rw[HT.out]
 clear hok hfl h0
 go_enter Tryz.func179,Tryz.ntmps179
 go_wp2_with fail
 go_loopw [5,13] (fun bv iv wr=>∃(k:Nat) (so:Sl) (L:List (List UInt8)),k≤l.length∧iv=.int .i64 k∧bv=.slice so.a L.length so.cap∧iC 61 w wr so L∧Hid (L=(l.take k).map fG)) (fun _ iv _=>l.length-(intOf iv).toNat)
 case atStart=>exact⟨0,⟨none,0⟩,[],Nat.zero_le _,rfl,rfl,iC.none _ (Below.refl _ _),rfl⟩
 case round=>
  obtain⟨k,so,L,hk,rfl,rfl,hH,HL⟩:=hrel
  by_cases hlt:k<l.length
  ·obtain⟨t,hrow,hp⟩:=(h.later hH.b).at k hlt
   obtain⟨L',hL'⟩:∃L',L'=(l.take (k+1)).map fG:=⟨_,rfl⟩
   obtain⟨x,hx⟩:∃x,x=fG l[k]:=⟨_,rfl⟩
   have HA:=Lib.hid (show L'=L++[x] by rw[hL',hx,vT _ hlt HL.out])
   have hLn:L'.length≤1000000:=by rw[hL',List.length_map,List.length_take];omega
   have kE:=Lib.hid hL'
   have HX:=Lib.hid hx
   clear hL' hx
   go_wp2_with fail
   have hbn:Below wr.heap.size wr (wr.alloc (.cells (ah t l[k]) 40)):=aj (Below.refl _ _) _
   refine(ZN _ l[k] _ (hp.later hbn) (HK.out _ (List.getElem_mem hlt))).mono ?_
   rw[←HX.out]
   rintro e w2 ⟨s2,rfl,hb2,hd2⟩
   have hb2':=ag hbn hb2
   have zM:bH w2 (fresh wr.heap.size w2) (fun y=>BytesAt y s2.a x):=hd2.to (fun _ _=>rfl) (fun j hj=>⟨by have:=hj.1;simp at this;omega,hj.2⟩)
   clear hbn hb2 hd2
   go_wp2_with (at_builtin;refine sF (L:=L') rfl _ _ _ rfl qh hH hb2' zM rfl rfl rfl rfl HA.out hLn ?_;intro s3 w3 hH3)
   go_roundw
   case rel=>exact⟨k+1,s3,L',by omega,by go_num,rfl,hH3,kE.out⟩
   case measure=>simp[intOf];omega
  ·have HE:=Lib.hid (show L=l.map fG by rw[HL.out,vU _ hlt])
   have hll:L.length=l.length:=by rw[HE.out,List.length_map]
   have hh:=(hH.hist (by unfold lim;omega)).out
   have hL0:0<L.length:=by omega
   rw[←HE.out]at HF ⊢
   clear hll
   go_wp2_with fail
   refine(xY _ _ L _ hh hL0 HF.out).mono ?_
   intro e w4 h4
   obtain⟨s4,rfl,hb4,hd4⟩:=bI.from h4 hH.b
   clear hH hh
   go_wp2_with fail
   go_ret
   rw[←HE.out]
   exact⟨s4,rfl,hb4,hd4⟩
theorem anJ(a:Option Addr)(cap:Nat)(l:List Key)(w:World)(h:kV w a l)(hok:∀p∈l,zy p)(h16:l.length≤16):Calls Tryz.prog 263 #[.slice a l.length cap,.func (.func 264) #[] #[]] w (bI w (dm (l.map iG))):=by
 rcases aX.addr h with h0|⟨b,o,rfl,hb⟩
 ·obtain rfl:l=[]:=List.eq_nil_of_length_eq_zero h0
  go_enter Tryz.func263,Tryz.ntmps263
  go_wp2_with fail
  go_ret
  exact pK (Below.refl _ _)
 by_cases h0:l.length=0
 ·obtain rfl:l=[]:=List.eq_nil_of_length_eq_zero h0
  go_enter Tryz.func263,Tryz.ntmps263
  go_wp2_with fail
  go_ret
  exact pK (Below.refl _ _)
 have hl0:((l.length:Int) == 0)=false:=beq_eq_false_iff_ne.2 (by omega)
 have HK:=Lib.hid hok
 have hfl:=map_le (f:=iG) (m:=295) (n:=16) (l:=l) (fun p hp=>Et (hok p hp)) h16
 have HF:=Lib.hid (Nat.le_trans hfl (by decide:16*295≤1000000))
 have HT:=Lib.hid (show dm (l.map iG)=dR (l.map iG) by unfold dm;rw[if_neg (by rw[List.length_map];exact h0)])
 have hpos:0<l.length:=by omega
 rw[HT.out]
 clear hok hfl h0
 go_enter Tryz.func263,Tryz.ntmps263
 go_wp2_with fail
 go_loopw [5,13] (fun bv iv wr=>∃(k:Nat) (so:Sl) (L:List (List UInt8)),k≤l.length∧iv=.int .i64 k∧bv=.slice so.a L.length so.cap∧iC 61 w wr so L∧Hid (L=(l.take k).map iG)) (fun _ iv _=>l.length-(intOf iv).toNat)
 case atStart=>exact⟨0,⟨none,0⟩,[],Nat.zero_le _,rfl,rfl,iC.none _ (Below.refl _ _),rfl⟩
 case round=>
  obtain⟨k,so,L,hk,rfl,rfl,hH,HL⟩:=hrel
  by_cases hlt:k<l.length
  ·obtain⟨t,hrow,hp⟩:=(h.later hH.b).at k hlt
   obtain⟨L',hL'⟩:∃L',L'=(l.take (k+1)).map iG:=⟨_,rfl⟩
   obtain⟨x,hx⟩:∃x,x=iG l[k]:=⟨_,rfl⟩
   have HA:=Lib.hid (show L'=L++[x] by rw[hL',hx,vT _ hlt HL.out])
   have hLn:L'.length≤1000000:=by rw[hL',List.length_map,List.length_take];omega
   have kE:=Lib.hid hL'
   have HX:=Lib.hid hx
   clear hL' hx
   go_wp2_with fail
   have hbn:Below wr.heap.size wr (wr.alloc (.cells (bZ t l[k]) 69)):=aj (Below.refl _ _) _
   refine(anF _ l[k] _ (hp.later hbn) (HK.out _ (List.getElem_mem hlt))).mono ?_
   rw[←HX.out]
   rintro e w2 ⟨s2,rfl,hb2,hd2⟩
   have hb2':=ag hbn hb2
   have zM:bH w2 (fresh wr.heap.size w2) (fun y=>BytesAt y s2.a x):=hd2.to (fun _ _=>rfl) (fun j hj=>⟨by have:=hj.1;simp at this;omega,hj.2⟩)
   clear hbn hb2 hd2
   go_wp2_with (at_builtin;refine sF (L:=L') rfl _ _ _ rfl qh hH hb2' zM rfl rfl rfl rfl HA.out hLn ?_;intro s3 w3 hH3)
   go_roundw
   case rel=>exact⟨k+1,s3,L',by omega,by go_num,rfl,hH3,kE.out⟩
   case measure=>simp[intOf];omega
  ·have HE:=Lib.hid (show L=l.map iG by rw[HL.out,vU _ hlt])
   have hll:L.length=l.length:=by rw[HE.out,List.length_map]
   have hh:=(hH.hist (by unfold lim;omega)).out
   have hL0:0<L.length:=by omega
   rw[←HE.out]at HF ⊢
   clear hll
   go_wp2_with fail
   refine(xY _ _ L _ hh hL0 HF.out).mono ?_
   intro e w4 h4
   obtain⟨s4,rfl,hb4,hd4⟩:=bI.from h4 hH.b
   clear hH hh
   go_wp2_with fail
   go_ret
   rw[←HE.out]
   exact⟨s4,rfl,hb4,hd4⟩
theorem anK(a:Option Addr)(cap:Nat)(l:List (List UInt8))(w:World)(h:fK w a l)(hok:∀p∈l,p.length=16)(h16:l.length≤16):Calls Tryz.prog 186 #[.slice a l.length cap,.func (.func 187) #[] #[]] w (bI w (dm (l.map gy))):=by
 rcases dY.addr h with h0|⟨b,o,rfl,hb⟩
 ·obtain rfl:l=[]:=List.eq_nil_of_length_eq_zero h0
  go_enter Tryz.func186,Tryz.ntmps186
  go_wp2_with fail
  go_ret
  exact pK (Below.refl _ _)
 by_cases h0:l.length=0
 ·obtain rfl:l=[]:=List.eq_nil_of_length_eq_zero h0
  go_enter Tryz.func186,Tryz.ntmps186
  go_wp2_with fail
  go_ret
  exact pK (Below.refl _ _)
 have hl0:((l.length:Int) == 0)=false:=beq_eq_false_iff_ne.2 (by omega)
 have HK:=Lib.hid hok
 have hfl:=map_le (f:=gy) (m:=21) (n:=16) (l:=l) (fun p hp=>by have:=Bq p;have:=hok p hp;omega) h16
 have HF:=Lib.hid (Nat.le_trans hfl (by decide:16*21≤1000000))
 have HT:=Lib.hid (show dm (l.map gy)=dR (l.map gy) by unfold dm;rw[if_neg (by rw[List.length_map];exact h0)])
 have hpos:0<l.length:=by omega
 rw[HT.out]
 clear hok hfl h0
 go_enter Tryz.func186,Tryz.ntmps186
 go_wp2_with fail
 go_loopw [5,13] (fun bv iv wr=>∃(k:Nat) (so:Sl) (L:List (List UInt8)),k≤l.length∧iv=.int .i64 k∧bv=.slice so.a L.length so.cap∧iC 61 w wr so L∧Hid (L=(l.take k).map gy)) (fun _ iv _=>l.length-(intOf iv).toNat)
 case atStart=>exact⟨0,⟨none,0⟩,[],Nat.zero_le _,rfl,rfl,iC.none _ (Below.refl _ _),rfl⟩
 case round=>
  obtain⟨k,so,L,hk,rfl,rfl,hH,HL⟩:=hrel
  by_cases hlt:k<l.length
  ·obtain⟨t,hrow,hp⟩:=(h.later hH.b).at k hlt
   obtain⟨L',hL'⟩:∃L',L'=(l.take (k+1)).map gy:=⟨_,rfl⟩
   obtain⟨x,hx⟩:∃x,x=gy l[k]:=⟨_,rfl⟩
   have HA:=Lib.hid (show L'=L++[x] by rw[hL',hx,vT _ hlt HL.out])
   have hLn:L'.length≤1000000:=by rw[hL',List.length_map,List.length_take];omega
   have kE:=Lib.hid hL'
   have HX:=Lib.hid hx
   clear hL' hx
   go_wp2_with fail
   refine(ZA _ _ l[k] _ hp (by rw[HK.out _ (List.getElem_mem hlt)];decide)).mono ?_
   rw[←HX.out]
   rintro e w2 ⟨s2,rfl,hb2',zM⟩
   go_wp2_with (at_builtin;refine sF (L:=L') rfl _ _ _ rfl qh hH hb2' zM rfl rfl rfl rfl HA.out hLn ?_;intro s3 w3 hH3)
   go_roundw
   case rel=>exact⟨k+1,s3,L',by omega,by go_num,rfl,hH3,kE.out⟩
   case measure=>simp[intOf];omega
  ·have HE:=Lib.hid (show L=l.map gy by rw[HL.out,vU _ hlt])
   have hll:L.length=l.length:=by rw[HE.out,List.length_map]
   have hh:=(hH.hist (by unfold lim;omega)).out
   have hL0:0<L.length:=by omega
   rw[←HE.out]at HF ⊢
   clear hll
   go_wp2_with fail
   refine(xY _ _ L _ hh hL0 HF.out).mono ?_
   intro e w4 h4
   obtain⟨s4,rfl,hb4,hd4⟩:=bI.from h4 hH.b
   clear hH hh
   go_wp2_with fail
   go_ret
   rw[←HE.out]
   exact⟨s4,rfl,hb4,hd4⟩
theorem anL(s:Sl)(k:bC)(w:World)(hk:jA w s k)(hf:zA k):Calls Tryz.prog 183 #[.agg (bz s k)] w (bI w (ji k)):=by
 have hfl:=Ox hf
 have EC:=Lib.hid (Nat.le_trans hfl (by decide:1600≤1000000))
 have e1:=rZ (v:=k.version.toNat) (k:=3) (by decide) (by have:=hf.version;simp;omega)
 have e2:=Bv (f:=iG) (m:=295) (n:=4) (l:=k.keys) (fun k hk=>Et (hf.keys k hk)) hf.few.2
 have e3:=IM k.di
 have e4:=zx (v:=k.dK.toNat) (k:=3) (by decide) (by have:=hf.dK;simp;omega)
 have e5:=IL k.created.toNat
 obtain⟨f1,f2,f3,f4,f5,f6⟩:=hf
 have HE:Hid (∀x∈[fB k.version.toNat,dm (k.keys.map iG),jR k.di,fZ k.dK.toNat,lQ k.created.toNat],x.length≤1000000):=by
  intro x hx
  simp only[List.mem_cons,List.not_mem_nil,or_false]at hx
  rcases hx with rfl|rfl|rfl|rfl|rfl<;>omega
 have HK:=Lib.hid f2
 have hB0:Below w.heap.size w (w.alloc (.cells (bz s k) 67)):=aj (Below.refl _ _) _
 have ou:=kV.later hB0 hk.1
 have HT:=Lib.hid (show ji k=mJ [fB k.version.toNat,dm (k.keys.map iG),jR k.di,fZ k.dK.toNat,lQ k.created.toNat] from rfl)
 have hn4:k.keys.length≤16:=by omega
 rw[HT.out]
 clear hfl e1 e2 e3 e4 e5 f2
 go_enter Tryz.func183,Tryz.ntmps183
 go_wp2_with fail
 refine pW (Below.refl _ (w.alloc (.cells (bz s k) 67))) (by kernel_rfl) (by kernel_rfl) ?_
 intro v0 hv0
 have hP0:Ps (w.alloc (.cells (bz s k) 67)) v0 []:=⟨hv0,by simp⟩
 repeat (first|(refine ax (by rfl) ?_)|(refine aI (by rfl) (by rfl) (fun K hK=>?_);go_big_quiet_op;refine hK _ ?_;clear hK K))
 refine aK (by rfl) (by rfl) (fun K hK=>?_)
 go_wp2_with fail
 refine(Jd _ _ f1.1 (by omega)).mono ?_
 rintro e v1 ⟨s1,rfl,hb1,hd1⟩
 have hP1:=hP0.add hb1 hd1.out
 clear hP0 hb1 hd1
 refine hK _ _ (aA hP1.b) ?_
 clear hK K
 repeat (first|(refine ax (by rfl) ?_)|(refine aI (by rfl) (by rfl) (fun K hK=>?_);go_big_quiet_op;refine hK _ ?_;clear hK K))
 refine aK (by rfl) (by rfl) (fun K hK=>?_)
 go_wp2_with fail
 refine(anJ _ _ k.keys _ (ou.later hP1.b) HK.out hn4).mono ?_
 rintro e v2 ⟨s2,rfl,hb2,hd2⟩
 have hP2:=hP1.add hb2 hd2.out
 clear hP1 hb2 hd2
 refine hK _ _ (aA hP2.b) ?_
 clear hK K
 repeat (first|(refine ax (by rfl) ?_)|(refine aI (by rfl) (by rfl) (fun K hK=>?_);go_big_quiet_op;refine hK _ ?_;clear hK K))
 refine aK (by rfl) (by rfl) (fun K hK=>?_)
 go_wp2_with fail
 refine(ZL _ _ (by omega)).mono ?_
 rintro e v3 ⟨s3,rfl,hb3,hd3⟩
 have hP3:=hP2.add hb3 hd3.out
 clear hP2 hb3 hd3
 refine hK _ _ (aA hP3.b) ?_
 clear hK K
 repeat (first|(refine ax (by rfl) ?_)|(refine aI (by rfl) (by rfl) (fun K hK=>?_);go_big_quiet_op;refine hK _ ?_;clear hK K))
 refine aK (by rfl) (by rfl) (fun K hK=>?_)
 go_wp2_with fail
 refine(ER _ _ f5.1 (by omega)).mono ?_
 rintro e v4 ⟨s4,rfl,hb4,hd4⟩
 have kF:=hP3.add hb4 hd4.out
 clear hP3 hb4 hd4
 refine hK _ _ (aA kF.b) ?_
 clear hK K
 repeat (first|(refine ax (by rfl) ?_)|(refine aI (by rfl) (by rfl) (fun K hK=>?_);go_big_quiet_op;refine hK _ ?_;clear hK K))
 refine aK (by rfl) (by rfl) (fun K hK=>?_)
 go_wp2_with fail
 refine(ZB _ _ f6.1 f6.2).mono ?_
 rintro e v5 ⟨s5,rfl,hb5,hd5⟩
 have jS:=kF.add hb5 hd5.out
 clear kF hb5 hd5
 refine hK _ _ (aA jS.b) ?_
 clear hK K
 repeat (first|(refine ax (by rfl) ?_)|(refine aI (by rfl) (by rfl) (fun K hK=>?_);go_big_quiet_op;refine hK _ ?_;clear hK K))
 refine aK (by rfl) (by rfl) (fun K hK=>?_)
 go_wp2_with fail
 refine hK _ _ (aA (aj jS.b _)) ?_
 clear hK K
 repeat (first|(refine ax (by rfl) ?_)|(refine aI (by rfl) (by rfl) (fun K hK=>?_);go_big_quiet_op;refine hK _ ?_;clear hK K))
 refine aK (by rfl) (by rfl) (fun K hK=>?_)
 go_wp2_with fail
 have hbn:=aj jS.b (.cells (nS [(s1,fB k.version.toNat),(s2,dm (k.keys.map iG)),(s3,jR k.di),(s4,fZ k.dK.toNat),(s5,lQ k.created.toNat)]) 61)
 refine(ZJ v5.heap.size (w.alloc (.cells (bz s k) 67)).heap.size _ [(s1,fB k.version.toNat),(s2,dm (k.keys.map iG)),(s3,jR k.di),(s4,fZ k.dK.toNat),(s5,lQ k.created.toNat)] _ (World.alloc_heap_new _ _) jS.b.size (fun x hx=>BytesAt.later (aj (Below.refl _ _) _) (jS.at_ x hx)) (by simp) (by simp) (fun x hx=>HE.out x.2 (by have:=List.mem_map_of_mem (f:=Prod.snd) hx;exact this)) EC.out).mono ?_
 rintro e vz ⟨sz,rfl,hbz,hdz⟩
 have sJ:=hbn.trans hbz
 have HB:=Lib.hid (And.intro (ag hB0 sJ) (hdz.to (S1:=fresh w.heap.size vz) (fun _ _=>rfl) (fun j hj=>⟨Nat.le_trans (ag hB0 hbn).size hj.1,hj.2⟩)))
 clear jS hbz hdz hbn
 refine hK _ _ (aA sJ) ?_
 clear hK K
 repeat (first|(refine ax (by rfl) ?_)|(refine aI (by rfl) (by rfl) (fun K hK=>?_);go_big_quiet_op;refine hK _ ?_;clear hK K))
 refine bV ?_
 go_wp2_with fail
 go_ret
 exact⟨sz,rfl,HB.out.1,HB.out.2⟩
theorem anM(a:Option Addr)(cap:Nat)(l:List bC)(w:World)(h:mO w a l)(hok:∀p∈l,zA p)(h16:l.length≤16):Calls Tryz.prog 182 #[.slice a l.length cap,.func (.func 183) #[] #[]] w (bI w (dm (l.map ji))):=by
 rcases aX.addr h with h0|⟨b,o,rfl,hb⟩
 ·obtain rfl:l=[]:=List.eq_nil_of_length_eq_zero h0
  go_enter Tryz.func182,Tryz.ntmps182
  go_wp2_with fail
  go_ret
  exact pK (Below.refl _ _)
 by_cases h0:l.length=0
 ·obtain rfl:l=[]:=List.eq_nil_of_length_eq_zero h0
  go_enter Tryz.func182,Tryz.ntmps182
  go_wp2_with fail
  go_ret
  exact pK (Below.refl _ _)
 have hl0:((l.length:Int) == 0)=false:=beq_eq_false_iff_ne.2 (by omega)
 have HK:=Lib.hid hok
 have hfl:=map_le (f:=ji) (m:=1605) (n:=16) (l:=l) (fun p hp=>Oy (hok p hp)) h16
 have HF:=Lib.hid (Nat.le_trans hfl (by decide:16*1605≤1000000))
 have HT:=Lib.hid (show dm (l.map ji)=dR (l.map ji) by unfold dm;rw[if_neg (by rw[List.length_map];exact h0)])
 have hpos:0<l.length:=by omega
 rw[HT.out]
 clear hok hfl h0
 go_enter Tryz.func182,Tryz.ntmps182
 go_wp2_with fail
 go_loopw [5,13] (fun bv iv wr=>∃(k:Nat) (so:Sl) (L:List (List UInt8)),k≤l.length∧iv=.int .i64 k∧bv=.slice so.a L.length so.cap∧iC 61 w wr so L∧Hid (L=(l.take k).map ji)) (fun _ iv _=>l.length-(intOf iv).toNat)
 case atStart=>exact⟨0,⟨none,0⟩,[],Nat.zero_le _,rfl,rfl,iC.none _ (Below.refl _ _),rfl⟩
 case round=>
  obtain⟨k,so,L,hk,rfl,rfl,hH,HL⟩:=hrel
  by_cases hlt:k<l.length
  ·obtain⟨t,hrow,hp⟩:=(h.later hH.b).at k hlt
   obtain⟨L',hL'⟩:∃L',L'=(l.take (k+1)).map ji:=⟨_,rfl⟩
   obtain⟨x,hx⟩:∃x,x=ji l[k]:=⟨_,rfl⟩
   have HA:=Lib.hid (show L'=L++[x] by rw[hL',hx,vT _ hlt HL.out])
   have hLn:L'.length≤1000000:=by rw[hL',List.length_map,List.length_take];omega
   have kE:=Lib.hid hL'
   have HX:=Lib.hid hx
   clear hL' hx
   go_wp2_with fail
   have hbn:Below wr.heap.size wr (wr.alloc (.cells (bz t l[k]) 67)):=aj (Below.refl _ _) _
   refine(anL _ l[k] _ (jA.later hbn hp) (HK.out _ (List.getElem_mem hlt))).mono ?_
   rw[←HX.out]
   rintro e w2 ⟨s2,rfl,hb2,hd2⟩
   have hb2':=ag hbn hb2
   have zM:bH w2 (fresh wr.heap.size w2) (fun y=>BytesAt y s2.a x):=hd2.to (fun _ _=>rfl) (fun j hj=>⟨by have:=hj.1;simp at this;omega,hj.2⟩)
   clear hbn hb2 hd2
   go_wp2_with (at_builtin;refine sF (L:=L') rfl _ _ _ rfl qh hH hb2' zM rfl rfl rfl rfl HA.out hLn ?_;intro s3 w3 hH3)
   go_roundw
   case rel=>exact⟨k+1,s3,L',by omega,by go_num,rfl,hH3,kE.out⟩
   case measure=>simp[intOf];omega
  ·have HE:=Lib.hid (show L=l.map ji by rw[HL.out,vU _ hlt])
   have hll:L.length=l.length:=by rw[HE.out,List.length_map]
   have hh:=(hH.hist (by unfold lim;omega)).out
   have hL0:0<L.length:=by omega
   rw[←HE.out]at HF ⊢
   clear hll
   go_wp2_with fail
   refine(xY _ _ L _ hh hL0 HF.out).mono ?_
   intro e w4 h4
   obtain⟨s4,rfl,hb4,hd4⟩:=bI.from h4 hH.b
   clear hH hh
   go_wp2_with fail
   go_ret
   rw[←HE.out]
   exact⟨s4,rfl,hb4,hd4⟩
theorem anN(r:aN)(d:Entry)(w:World)(he:bK w r d)(hf:zB d):Calls Tryz.prog 106 #[.agg (ae r d)] w (bI w (pJ d)):=by
 have hB0:Below w.heap.size w (w.alloc (.cells (ae r d) 47)):=aj (Below.refl _ _) _
 have nR:=he.later hB0
 have HE:=Lib.hid (fun x hx=>Nat.le_trans (OA hf x hx) (by decide:26000≤1000000))
 have EC:=Lib.hid (Nat.le_trans (OB hf) (by decide:416080≤1000000))
 have HT:=Lib.hid (show pJ d=mJ (oK d) from rfl)
 obtain⟨f1,f2,f3,f4,f5,f6,f7,f8,f9,f10,f11,f12,f13,f14,f15,f16⟩:=hf
 have F1:=Lib.hid f1;have F2:=Lib.hid f2;have F5:=Lib.hid f5;have ZO:=Lib.hid f14;have ZP:=Lib.hid f15;have ZQ:=Lib.hid f16
 have F3:=Lib.hid f3;have F4:=Lib.hid f4;have F6:=Lib.hid f6;have F7:=Lib.hid f7;have F8:=Lib.hid f8;have F9:=Lib.hid f9;have F10:=Lib.hid f10;have F11:=Lib.hid f11;have ZR:=Lib.hid f12;have ZT:=Lib.hid f13
 clear f1 f2 f5 f14 f15 f16 f4 f6 f7 f8 f9 f10 f11 f12 f13
 rw[HT.out]
 go_enter Tryz.func106,Tryz.ntmps106
 go_wp2_with fail
 refine pW (Below.refl _ (w.alloc (.cells (ae r d) 47))) (by kernel_rfl) (by kernel_rfl) ?_
 intro v0 hv0
 have hP0:Ps (w.alloc (.cells (ae r d) 47)) v0 []:=⟨hv0,by simp⟩
 repeat (first|(refine ax (by rfl) ?_)|(refine aI (by rfl) (by rfl) (fun K hK=>?_);go_big_quiet_op;refine hK _ ?_;clear hK K))
 refine aK (by rfl) (by rfl) (fun K hK=>?_)
 go_wp2_with fail
 refine(ZN _ _ _ (nR.name.later hP0.b) F1.out).mono ?_
 rintro e v1 ⟨s1,rfl,hb1,hd1⟩
 have hP1:=hP0.add hb1 hd1.out
 clear hP0 hb1 hd1
 refine hK _ _ (aA hP1.b) ?_
 clear hK K
 repeat (first|(refine ax (by rfl) ?_)|(refine aI (by rfl) (by rfl) (fun K hK=>?_);go_big_quiet_op;refine hK _ ?_;clear hK K))
 refine aK (by rfl) (by rfl) (fun K hK=>?_)
 go_wp2_with fail
 refine(PH _ _ _ _ (nR.aliases.later hP1.b) F2.out.1 F2.out.2).mono ?_
 rintro e v2 ⟨s2,rfl,hb2,hd2⟩
 have hP2:=hP1.add hb2 hd2.out
 clear hP1 hb2 hd2
 refine hK _ _ (aA hP2.b) ?_
 clear hK K
 repeat (first|(refine ax (by rfl) ?_)|(refine aI (by rfl) (by rfl) (fun K hK=>?_);go_big_quiet_op;refine hK _ ?_;clear hK K))
 refine aK (by rfl) (by rfl) (fun K hK=>?_)
 go_wp2_with fail
 refine(anv _ _ F3.out.1 (by have:=F3.out.2;omega)).mono ?_
 rintro e v3 ⟨s3,rfl,hb3,hd3⟩
 have hP3:=hP2.add hb3 hd3.out
 clear hP2 hb3 hd3
 refine hK _ _ (aA hP3.b) ?_
 clear hK K
 repeat (first|(refine ax (by rfl) ?_)|(refine aI (by rfl) (by rfl) (fun K hK=>?_);go_big_quiet_op;refine hK _ ?_;clear hK K))
 refine aK (by rfl) (by rfl) (fun K hK=>?_)
 go_wp2_with fail
 refine(ER _ _ F4.out.1 (by have:=F4.out;omega)).mono ?_
 rintro e v4 ⟨s4,rfl,hb4,hd4⟩
 have kF:=hP3.add hb4 hd4.out
 clear hP3 hb4 hd4
 refine hK _ _ (aA kF.b) ?_
 clear hK K
 repeat (first|(refine ax (by rfl) ?_)|(refine aI (by rfl) (by rfl) (fun K hK=>?_);go_big_quiet_op;refine hK _ ?_;clear hK K))
 refine aK (by rfl) (by rfl) (fun K hK=>?_)
 go_wp2_with fail
 refine(anM _ _ _ _ (nR.keys.later kF.b) F5.out.1 F5.out.2).mono ?_
 rintro e v5 ⟨s5,rfl,hb5,hd5⟩
 have jS:=kF.add hb5 hd5.out
 clear kF hb5 hd5
 refine hK _ _ (aA jS.b) ?_
 clear hK K
 repeat (first|(refine ax (by rfl) ?_)|(refine aI (by rfl) (by rfl) (fun K hK=>?_);go_big_quiet_op;refine hK _ ?_;clear hK K))
 refine aK (by rfl) (by rfl) (fun K hK=>?_)
 go_wp2_with fail
 refine(ZL _ _ (Nat.le_trans F6.out (by decide))).mono ?_
 rintro e v6 ⟨s6,rfl,hb6,hd6⟩
 have oL:=jS.add hb6 hd6.out
 clear jS hb6 hd6
 refine hK _ _ (aA oL.b) ?_
 clear hK K
 repeat (first|(refine ax (by rfl) ?_)|(refine aI (by rfl) (by rfl) (fun K hK=>?_);go_big_quiet_op;refine hK _ ?_;clear hK K))
 refine aK (by rfl) (by rfl) (fun K hK=>?_)
 go_wp2_with fail
 refine(Je _ _ F7.out.1 F7.out.2).mono ?_
 rintro e v7 ⟨s7,rfl,hb7,hd7⟩
 have sG:=oL.add hb7 hd7.out
 clear oL hb7 hd7
 refine hK _ _ (aA sG.b) ?_
 clear hK K
 repeat (first|(refine ax (by rfl) ?_)|(refine aI (by rfl) (by rfl) (fun K hK=>?_);go_big_quiet_op;refine hK _ ?_;clear hK K))
 refine aK (by rfl) (by rfl) (fun K hK=>?_)
 go_wp2_with fail
 refine(Je _ _ F8.out.1 F8.out.2).mono ?_
 rintro e v8 ⟨s8,rfl,hb8,hd8⟩
 have pM:=sG.add hb8 hd8.out
 clear sG hb8 hd8
 refine hK _ _ (aA pM.b) ?_
 clear hK K
 repeat (first|(refine ax (by rfl) ?_)|(refine aI (by rfl) (by rfl) (fun K hK=>?_);go_big_quiet_op;refine hK _ ?_;clear hK K))
 refine aK (by rfl) (by rfl) (fun K hK=>?_)
 go_wp2_with fail
 refine(ER _ _ F9.out.1 (by have:=F9.out;omega)).mono ?_
 rintro e v9 ⟨s9,rfl,dW,hd9⟩
 have xR:=pM.add dW hd9.out
 clear pM dW hd9
 refine hK _ _ (aA xR.b) ?_
 clear hK K
 repeat (first|(refine ax (by rfl) ?_)|(refine aI (by rfl) (by rfl) (fun K hK=>?_);go_big_quiet_op;refine hK _ ?_;clear hK K))
 refine aK (by rfl) (by rfl) (fun K hK=>?_)
 go_wp2_with fail
 refine(ER _ _ F10.out.1 (by have:=F10.out;omega)).mono ?_
 rintro e v10 ⟨s10,rfl,Ez,hd10⟩
 have zH:=xR.add Ez hd10.out
 clear xR Ez hd10
 refine hK _ _ (aA zH.b) ?_
 clear hK K
 repeat (first|(refine ax (by rfl) ?_)|(refine aI (by rfl) (by rfl) (fun K hK=>?_);go_big_quiet_op;refine hK _ ?_;clear hK K))
 refine aK (by rfl) (by rfl) (fun K hK=>?_)
 go_wp2_with fail
 refine(ER _ _ F11.out.1 (by have:=F11.out;omega)).mono ?_
 rintro e v11 ⟨s11,rfl,xO,hd11⟩
 have sH:=zH.add xO hd11.out
 clear zH xO hd11
 refine hK _ _ (aA sH.b) ?_
 clear hK K
 repeat (first|(refine ax (by rfl) ?_)|(refine aI (by rfl) (by rfl) (fun K hK=>?_);go_big_quiet_op;refine hK _ ?_;clear hK K))
 refine aK (by rfl) (by rfl) (fun K hK=>?_)
 go_wp2_with fail
 refine(Je _ _ ZR.out.1 ZR.out.2).mono ?_
 rintro e v12 ⟨s12,rfl,gu,xP⟩
 have nP:=sH.add gu xP.out
 clear sH gu xP
 refine hK _ _ (aA nP.b) ?_
 clear hK K
 repeat (first|(refine ax (by rfl) ?_)|(refine aI (by rfl) (by rfl) (fun K hK=>?_);go_big_quiet_op;refine hK _ ?_;clear hK K))
 refine aK (by rfl) (by rfl) (fun K hK=>?_)
 go_wp2_with fail
 refine(Je _ _ ZT.out.1 ZT.out.2).mono ?_
 rintro e v13 ⟨s13,rfl,lg,ED⟩
 have Jf:=nP.add lg ED.out
 clear nP lg ED
 refine hK _ _ (aA Jf.b) ?_
 clear hK K
 repeat (first|(refine ax (by rfl) ?_)|(refine aI (by rfl) (by rfl) (fun K hK=>?_);go_big_quiet_op;refine hK _ ?_;clear hK K))
 refine aK (by rfl) (by rfl) (fun K hK=>?_)
 go_wp2_with fail
 refine(PH _ _ _ _ (nR.targets.later Jf.b) ZO.out.1 ZO.out.2).mono ?_
 rintro e v14 ⟨s14,rfl,oG,EF⟩
 have xU:=Jf.add oG EF.out
 clear Jf oG EF
 refine hK _ _ (aA xU.b) ?_
 clear hK K
 repeat (first|(refine ax (by rfl) ?_)|(refine aI (by rfl) (by rfl) (fun K hK=>?_);go_big_quiet_op;refine hK _ ?_;clear hK K))
 refine aK (by rfl) (by rfl) (fun K hK=>?_)
 go_wp2_with fail
 refine(PH _ _ _ _ (nR.bD.later xU.b) ZP.out.1 ZP.out.2).mono ?_
 rintro e v15 ⟨s15,rfl,vV,EG⟩
 have xW:=xU.add vV EG.out
 clear xU vV EG
 refine hK _ _ (aA xW.b) ?_
 clear hK K
 repeat (first|(refine ax (by rfl) ?_)|(refine aI (by rfl) (by rfl) (fun K hK=>?_);go_big_quiet_op;refine hK _ ?_;clear hK K))
 refine aK (by rfl) (by rfl) (fun K hK=>?_)
 go_wp2_with fail
 refine(anK _ _ _ _ (nR.history.later xW.b) ZQ.out.1 ZQ.out.2).mono ?_
 rintro e v16 ⟨s16,rfl,hb16,EH⟩
 have uG:=xW.add hb16 EH.out
 clear xW hb16 EH
 refine hK _ _ (aA uG.b) ?_
 clear hK K
 repeat (first|(refine ax (by rfl) ?_)|(refine aI (by rfl) (by rfl) (fun K hK=>?_);go_big_quiet_op;refine hK _ ?_;clear hK K))
 refine aK (by rfl) (by rfl) (fun K hK=>?_)
 go_wp2_with fail
 refine hK _ _ (aA (aj uG.b _)) ?_
 clear hK K
 repeat (first|(refine ax (by rfl) ?_)|(refine aI (by rfl) (by rfl) (fun K hK=>?_);go_big_quiet_op;refine hK _ ?_;clear hK K))
 refine aK (by rfl) (by rfl) (fun K hK=>?_)
 go_wp2_with fail
 have hbn:=aj uG.b (.cells (nS [(s1,fG d.name),(s2,dm (d.aliases.map fG)),(s3,uB d.attrs.toNat),(s4,fZ d.dS.toNat),(s5,dm (d.keys.map ji)),(s6,jR d.aO),(s7,jh d.iE.toNat),(s8,jh d.iF.toNat),(s9,fZ d.ig.toNat),(s10,fZ d.ik.toNat),(s11,fZ d.fails.toNat),(s12,jh d.fD.toNat),(s13,jh d.gQ.toNat),(s14,dm (d.targets.map fG)),(s15,dm (d.bD.map fG)),(s16,dm (d.history.map gy))]) 61)
 refine(ZJ v16.heap.size (w.alloc (.cells (ae r d) 47)).heap.size _ [(s1,fG d.name),(s2,dm (d.aliases.map fG)),(s3,uB d.attrs.toNat),(s4,fZ d.dS.toNat),(s5,dm (d.keys.map ji)),(s6,jR d.aO),(s7,jh d.iE.toNat),(s8,jh d.iF.toNat),(s9,fZ d.ig.toNat),(s10,fZ d.ik.toNat),(s11,fZ d.fails.toNat),(s12,jh d.fD.toNat),(s13,jh d.gQ.toNat),(s14,dm (d.targets.map fG)),(s15,dm (d.bD.map fG)),(s16,dm (d.history.map gy))] _ (World.alloc_heap_new _ _) uG.b.size (fun x hx=>BytesAt.later (aj (Below.refl _ _) _) (uG.at_ x hx)) (by simp) (by simp) (fun x hx=>HE.out x.2 (by have:=List.mem_map_of_mem (f:=Prod.snd) hx;exact this)) EC.out).mono ?_
 rintro e vz ⟨sz,rfl,hbz,hdz⟩
 have sJ:=hbn.trans hbz
 have HB:=Lib.hid (And.intro (ag hB0 sJ) (hdz.to (S1:=fresh w.heap.size vz) (fun _ _=>rfl) (fun j hj=>⟨Nat.le_trans (ag hB0 hbn).size hj.1,hj.2⟩)))
 clear uG hbz hdz hbn
 refine hK _ _ (aA sJ) ?_
 clear hK K
 repeat (first|(refine ax (by rfl) ?_)|(refine aI (by rfl) (by rfl) (fun K hK=>?_);go_big_quiet_op;refine hK _ ?_;clear hK K))
 refine bV ?_
 go_wp2_with fail
 go_ret
 exact⟨sz,rfl,HB.out.1,HB.out.2⟩
theorem anO(r:aN)(d:Entry)(w:World)(he:bK w r d)(hok:bW d=true):Calls Tryz.prog 62 #[.agg (ae r d)] w fun e w'=>∃s:Sl,e=.returned (.tuple #[.slice s.a (pJ d).length s.cap,.int .i64 0])∧Below w.heap.size w w'∧BytesAt w' s.a (pJ d):=by
 have hB0:Below w.heap.size w (w.alloc (.cells (ae r d) 47)):=aj (Below.refl _ _) _
 have nR:=he.later hB0
 have HF:=Lib.hid (OE hok he.attrs.1)
 go_enter Tryz.func62,Tryz.ntmps62
 go_wp2_with fail
 refine(CW _ _ _ nR).mono ?_
 rintro e w1 ⟨rfl,hb1⟩
 rw[hok]
 obtain⟨hcc,aT,hrr⟩:=bg hb1
 have hsz:w.heap.size<w1.heap.size:=by have:=hb1.size;simp at this;omega
 go_wp2_with fail
 refine(anN _ _ _ (nR.later hb1) HF.out).mono ?_
 rintro e w2 ⟨s2,rfl,hb2,hd2⟩
 have HB:=Lib.hid (And.intro (ag (ag hB0 hb1) hb2) hd2.out)
 clear nR hcc aT hrr hb1 hb2 hd2
 go_wp2_with fail
 go_ret2
 exact⟨s2,rfl,HB.out.1,HB.out.2⟩
def arj(w:World)(l:List (List UInt8))(e:Ending)(w':World):Prop:=∃s:Sl,e=.returned (.slice s.a l.length s.cap)∧Below w.heap.size w w'∧fK w' s.a l
end Go.Proofs.YtfieenjdcpjmgaaGreatDoor
namespace Go.Proofs
open Go.Shelf
def Tryz.lays106_ren:Go.Shelf.Ren:=⟨fun|106=>109|213=>189|265=>269|n=>n,fun|9=>9|3=>3|n=>n,fun|n=>n⟩
theorem Tryz.lays106:Go.Proofs.Lays.n106 Tryz.prog Tryz.lays106_ren:={
 mixed:=by kernel_rfl
 f106:=Tryz.func109.trans (congrArg some (by kernel_rfl))
 f213:=Tryz.func189.trans (congrArg some (by kernel_rfl))
 f265:=Tryz.func269.trans (congrArg some (by kernel_rfl))
 t3:=Tryz.underlying3
 a3:=Tryz.isAgg3
 z3:=Tryz.sizeOf3
 v3:=Tryz.zeroValue3
 t9:=Tryz.underlying9
 a9:=Tryz.isAgg9
 z9:=Tryz.sizeOf9
 v9:=Tryz.zeroValue9}
open Go.RowKit in
theorem Tryz.strings_Compare(a b:ByteArray)(w:World) :
  Calls Tryz.prog 109 #[.string a,.string b] w fun e w'=>e=.returned (.int .i64 (Lib.compareBytes a.data.toList b.data.toList))∧w'=w:=Any.strings_Compare Tryz.lays106 a b w
end Go.Proofs
namespace Go.WW
open Go.RowKit
theorem ZU:∀a b:List UInt8,Lib.compareBytes a b=if Op.bytesLess a b then -1 else if Op.bytesLess b a then 1 else 0
 | [],[]=>by simp[Lib.compareBytes,Op.bytesLess]
 | [],_::_=>by simp[Lib.compareBytes,Op.bytesLess]
 |_::_,[]=>by simp[Lib.compareBytes,Op.bytesLess]
 |a::l,b::m=>by
  have ih:=ZU l m
  unfold Lib.compareBytes Op.bytesLess
  by_cases h1:a<b
  ·simp[h1]
  ·by_cases h2:b<a
   ·have hne:¬a=b:=fun e=>by subst e;exact h1 h2
    simp[h1,h2,hne]
   ·have e:a=b:=by
     apply UInt8.le_antisymm
     ·exact UInt8.not_lt.1 h2
     ·exact UInt8.not_lt.1 h1
    subst e
    simp[h1,ih]
theorem anP(a b:ByteArray):Lib.compareBytes a.data.toList b.data.toList=dD a b:=by
 unfold dD;rw[ByteArray.toList_eq,ByteArray.toList_eq];exact ZU _ _
def nz(w:World)(a:Option Addr)(X:List ai):Prop:=aX w 10 a X.length fun i cs=>∃x,X[i]?=some x∧cs=aC x
theorem nz.later{w w':World}(h:Below w.heap.size w w'){a:Option Addr}{X:List ai}(x:nz w a X):nz w' a X:=aX.later h (fun _ _ y=>y) x
theorem nz.at{w:World}{b o:Nat}{X:List ai}(x:nz w (some ⟨b,o,none⟩) X)(i:Nat)(h:i<X.length):row? w b (o+i*10) 10=some (aC X[i]):=by
 obtain⟨b',o',cs,ha,hr,y,hy,rfl⟩:=x.2 i h
 cases ha
 rw[List.getElem?_eq_getElem h]at hy
 cases hy;exact hr
theorem nz.eG{w:World}{base:Nat}{e:TypeId}{s:Sl}{X:List ai}(h:Own w base e 10 s (X.map aC))(hn:X.length≤lim):nz w s.a X:=
 aX.eG h (by simp) hn (fun i hi=>⟨X[i]'(by simpa using hi),List.getElem?_eq_getElem (by simpa using hi),by simp⟩)
theorem nz.put{w:World}{g:Nat}{Y:List ai}(h:nz w (some ⟨g,0,none⟩) Y)(ho:Open w g (Y.length*10)){i:Nat}(hi:i<Y.length)(x:ai):nz (putRow w g (0+i*10) (aC x)) (some ⟨g,0,none⟩) (Y.set i x):=by
 refine⟨by simpa using h.1,fun j hj=>?_⟩
 have hj':j<Y.length:=by simpa using hj
 have hs:=wL x
 by_cases e:j=i
 ·subst e
  exact⟨g,0,_,rfl,UQ ho (wL x) (by omega),x,by simp[hj'],rfl⟩
 ·obtain⟨b,o,cs,ha,hr,y,hy,rfl⟩:=h.2 j hj'
  cases ha
  refine⟨g,0,_,rfl,(UO ho (by omega) (by omega)).trans hr,y,by rw[List.getElem?_set_ne (by omega)];exact hy,rfl⟩
theorem nz.block{w x:World}{g:Nat}{Y:List ai}(h:nz w (some ⟨g,0,none⟩) Y)(e:x.heap[g]?=w.heap[g]?):nz x (some ⟨g,0,none⟩) Y:=by
 refine⟨h.1,fun i hi=>?_⟩
 obtain⟨b,o,cs,ha,hr,hy⟩:=h.2 i hi
 cases ha
 exact⟨g,0,cs,rfl,(gZ e _ _).trans hr,hy⟩
theorem Own.anQ{w:World}{base:Nat}{e:TypeId}{s:Sl}{rows:List (Array Value)}{g:Nat}(h:Own w base e 10 s rows)(hg:s.a=some ⟨g,0,none⟩):Open w g (rows.length*10):=by
 rcases h.own.2 with⟨hv,_⟩|⟨g',cap,cur,hv,_,hh,hle,_,hsz,_⟩
 ·rw[hg]at hv;cases hv
 ·have ha:s.a=some ⟨g',0,none⟩:=by injection hv
  rw[hg]at ha;cases ha
  exact⟨cur,e,hh,by rw[hsz];exact Nat.mul_le_mul_right _ hle⟩
abbrev nC(q:ai):ByteArray:=q.name
end Go.WW
namespace Go.Proofs.YtfieenjdcpjmgaaGreatDoor
open Go.RowKit Go.WW
theorem anR:gp Tryz.prog 30 50 10 88:=gp.of Tryz.underlying30 (by kernel_rfl)
theorem ZV(p q:ai)(w:World):Calls Tryz.prog 108 #[.agg (aC p),.agg (aC q)] w fun e w'=>e=.returned (.int .i64 (dD p.name q.name))∧Below w.heap.size w w':=by
 have hB:Below w.heap.size w ((w.alloc (.cells (aC p) 50)).alloc (.cells (aC q) 50)):=((Below.refl _ _).alloc (Nat.le_refl _) _).alloc (by simp) _
 go_enter Tryz.func108,Tryz.ntmps108
 go_wp2_with fail
 refine(Tryz.strings_Compare _ _ _).mono ?_
 rintro e w' ⟨rfl,rfl⟩
 go_wp2_with fail
 go_ret
 exact⟨by rw[anP];rfl,hB⟩
end Go.Proofs.YtfieenjdcpjmgaaGreatDoor
namespace Go.WW
open Go.RowKit
def ES(w:World)(g:Nat)(T:TypeId):Prop:=∃c,w.heap[g]?=some (.cells c T)
theorem ES.put{w:World}{g n o:Nat}{T:TypeId}{cs:Array Value}(h:ES w g T)(ho:Open w g n)(hc:o+cs.size≤n):ES (putRow w g o cs) g T:=by
 obtain⟨c,hc1⟩:=h
 obtain⟨c',t',hc2,hn⟩:=ho
 rw[hc1]at hc2
 cases hc2
 exact⟨_,kM hc1 (by omega)⟩
structure lq(g:Nat)(X Y:List ai)(w0 w:World):Prop where
 perm:Y.Perm X
 but:But (·=g) w0 w
 rows:nz w (some ⟨g,0,none⟩) Y
 opn:Open w g (Y.length*10)
 typ:ES w g 50
theorem lq.step{g:Nat}{X Y:List ai}{w0 w w':World}(h:lq g X Y w0 w)(hb:Below w.heap.size w w'):lq g X Y w0 w':=by
 obtain⟨c,t,hc,_⟩:=h.opn
 have e:=hb.block g (Array.getElem?_eq_some_iff.1 hc).1
 exact⟨h.perm,h.but.trans (But.of_below hb),h.rows.later hb,h.opn.at e,by obtain⟨c,hc⟩:=h.typ;exact⟨c,e.trans hc⟩⟩
theorem lq.drew{g:Nat}{X Y:List ai}{w0 w:World}(h:lq g X Y w0 w):lq g X Y w0 w.drew:=h.step (Below.refl _ _).drew
theorem lq.swap{g:Nat}{X Y:List ai}{w0 w:World}(h:lq g X Y w0 w){j:Nat}(h1:j+1<Y.length):lq g X ((Y.set (j+1) Y[j]).set j Y[j+1]) w0 (putRow (putRow w g ((j+1)*10) (aC Y[j])) g (j*10) (aC Y[j+1])):=by
 have r1:=h.rows.put h.opn h1 Y[j]
 have s1:=wL Y[j]
 have s2:=wL Y[j+1]
 have o1:Open (putRow w g (0+(j+1)*10) (aC Y[j])) g (Y.length*10):=h.opn.put (by omega)
 have r2:=r1.put (by simpa using o1) (i:=j) (by simp;omega) Y[j+1]
 rw[Nat.zero_add]at r2 o1
 rw[Nat.zero_add]at r2
 exact⟨(swap_perm h1).trans h.perm,(h.but.put rfl).put rfl,r2,by simpa using o1.put (by omega),(h.typ.put h.opn (by omega)).put o1 (by omega)⟩
end Go.WW
namespace Go.Proofs.YtfieenjdcpjmgaaGreatDoor
open Go.RowKit Go.WW
theorem anS(g cap:Nat)(X:List ai)(w:World)(hn:X.length≤12)(hX:lq g X X w w)(hD:(X.map nC).Nodup) :
  Calls Tryz.prog 321 #[.slice (some ⟨g,0,none⟩) X.length cap,.int .i64 0,.int .i64 X.length,.func (.func 108) #[] #[]] w fun e w'=>e=.returned (.tuple #[])∧∃Y,lq g X Y w w'∧Sorted dD nC Y:=by
 have HD:=Lib.hid hD
 clear hD
 go_enter Tryz.func321,Tryz.ntmps321
 go_wp2_with fail
 go_loopw [8] (fun iv wr=>∃(i:Nat) (Y:List ai),1≤i∧i≤13∧iv=.int .i64 i∧Hid (lq g X Y w wr)∧Hid (Sorted dD nC (Y.take i))) (fun iv _=>13-(intOf iv).toNat)
 case atStart=>exact⟨1,X,Nat.le_refl _,by omega,rfl,hX,by cases X<;>simp[Hid,Sorted]⟩
 case round=>
  obtain⟨i,Y,h1,h13,rfl,hS,hso⟩:=hrel
  have HL:=Lib.hid (hS.out.perm.length_eq)
  by_cases hlt:i<X.length
  ·have hki:(i:Int)<(X.length:Int):=by omega
   have HM:=Lib.hid (UM hso.out (by rw[HL.out];exact hlt))
   go_wp2_with fail
   clear hso HL
   go_loopw [9] (fun jv wr=>∃(j:Nat) (Y:List ai),j≤i∧jv=.int .i64 j∧Hid (lq g X Y w wr)∧Hid (Mid dD nC Y i j)) (fun jv _=>(intOf jv).toNat)
   case atStart=>exact⟨i,Y,Nat.le_refl _,rfl,hS,HM⟩
   case round=>
    clear hS HM
    obtain⟨j,Y,hj,rfl,hS,hM⟩:=hrel
    have HL:=Lib.hid (hS.out.perm.length_eq)
    cases j with
    |zero=>
     have HZ:=Lib.hid (mid_zero hM.out)
     go_wp2_with fail
     refine dM (Below.refl _ wr) (by kernel_rfl) (by kernel_rfl) ?_
     repeat (go_big_quiet_step (fail))
     refine wpQuiet_nil ?_
     intro w2 hb2
     have HS2:=Lib.hid (hS.out.step hb2)
     go_wp2_with fail
     go_roundw
     case rel=>exact⟨i+1,Y,by omega,by omega,by go_num,HS2.out,HZ.out⟩
     case measure=>simp[intOf];omega
    |succ j=>
     have hjl:j+1<Y.length:=by rw[HL.out];omega
     have hji:(0:Int)<((j+1:Nat):Int):=by omega
     have KZ:((j+1:Nat):Int)<(X.length:Int):=by omega
     have hr1:=hS.out.rows.at (j+1) hjl
     have hr0:=hS.out.rows.at j (by omega)
     rw[Nat.zero_add]at hr1 hr0
     have hgw:g<wr.heap.size:=gm hr1
     by_cases hc:dD Y[j+1].name Y[j].name<0
     ·have pg:=Lib.hid (mid_step hM.out hjl hc)
      have HS2:=Lib.hid (fun w2 hb2=>((hS.out.step (w':=w2) hb2)).drew.swap hjl)
      generalize Y[j+1]=x at *
      generalize Y[j]=z at *
      go_wp2_with fail
      refine dM (Below.refl _ wr) (by kernel_rfl) (by kernel_rfl) ?_
      repeat (go_big_quiet_step ((go_at_call 108;rename_i xw;exact Calls.gz (ZV _ _ _))))
      refine wpQuiet_nil ?_
      intro w2 hb2
      go_wp2_with fail
      have hr1':row? w2 g ((j+1)*10) 10=some (aC x):=(gZ (hb2.block g hgw) _ _).trans hr1
      have ahG:row? w2 g (j*10) 10=some (aC z):=(gZ (hb2.block g hgw) _ _).trans hr0
      have HO:=Lib.hid (hS.out.step hb2).opn
      have hp1:aS w2 g ((j+1)*10) 10=true:=HO.out.can (by omega)
      have hp0:aS (putRow w2.drew g ((j+1)*10) (aC z)) g (j*10) 10=true:=Open.can (n:=Y.length*10) (Open.put (HO.out.at rfl) (by show(j+1)*10+10≤_;omega)) (by omega)
      have Du:Hid (lq g X ((Y.set (j+1) z).set j x) w (putRow (putRow w2.drew g ((j+1)*10) (aC z)) g (j*10) (aC x))):=HS2.out w2 hb2
      clear hr1 hr0 HS2 HO
      refine T3.UT (·=g) (But.refl _ w2) (by kernel_rfl) (by kernel_rfl) ?_
      repeat (first|(refine T3.ax (by rfl) ?_)|(refine T3.aI (by rfl) (by rfl) (fun K hK=>?_);go_big_quiet_op;refine hK _ ?_;clear hK K)|(refine T3.AL (by rfl) (by rfl) (fun K hK=>?_);go_wp2_with fail))
      refine T3.aK (by rfl) (by rfl) (fun K hK=>?_)
      go_wp2_with fail
      have HB1:=Lib.hid (But.put (g:=g) (o:=(j+1)*10) (cs:=aC z) (S:=(·=g)) (But.refl _ w2).drew rfl)
      generalize putRow w2.drew g ((j+1)*10) (aC z)=V at *
      refine hK _ _ (dw HB1.out) ?_
      clear hK K
      repeat (first|(refine T3.ax (by rfl) ?_)|(refine T3.aI (by rfl) (by rfl) (fun K hK=>?_);go_big_quiet_op;refine hK _ ?_;clear hK K)|(refine T3.AL (by rfl) (by rfl) (fun K hK=>?_);go_wp2_with fail))
      refine T3.aK (by rfl) (by rfl) (fun K hK=>?_)
      go_wp2_with fail
      have HB2:=Lib.hid (But.put (g:=g) (o:=j*10) (cs:=aC x) HB1.out rfl)
      generalize putRow V g (j*10) (aC x)=U at *
      refine hK _ _ (dw HB2.out) ?_
      clear hK K
      repeat (first|(refine T3.ax (by rfl) ?_)|(refine T3.aI (by rfl) (by rfl) (fun K hK=>?_);go_big_quiet_op;refine hK _ ?_;clear hK K)|(refine T3.AL (by rfl) (by rfl) (fun K hK=>?_);go_wp2_with fail))
      refine T3.bV ?_
      go_wp2_with fail
      go_roundw
      case rel=>exact⟨j,(Y.set (j+1) z).set j x,by omega,rfl,Du,pg⟩
      case measure=>simp[intOf]
     ·have HZ:=Lib.hid (UN oW hM.out hjl ((hS.out.perm.map nC).nodup_iff.2 HD.out) hc)
      generalize Y[j+1]=x at *
      generalize Y[j]=z at *
      go_wp2_with fail
      refine dM (Below.refl _ wr) (by kernel_rfl) (by kernel_rfl) ?_
      repeat (go_big_quiet_step ((go_at_call 108;rename_i xw;exact Calls.gz (ZV _ _ _))))
      refine wpQuiet_nil ?_
      intro w2 hb2
      have HS2:=Lib.hid (hS.out.step hb2)
      go_wp2_with fail
      go_roundw
      case rel=>exact⟨i+1,Y,by omega,by omega,by go_num,HS2.out,HZ.out⟩
      case measure=>simp[intOf];omega
  ·have hki:¬(i:Int)<(X.length:Int):=by omega
   go_wp2_with fail
   go_end0
   exact⟨rfl,Y,hS.out,by have:=hso.out;rwa[List.take_of_length_le (by rw[HL.out];omega)]at this⟩
end Go.Proofs.YtfieenjdcpjmgaaGreatDoor
