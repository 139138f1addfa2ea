/- A part of the proof. -/
import Derived.Test.YtpfifochimkpfaaGreatDoorA28
import Derived.Test.YtpfifochimkpfaaGreatDoorProg
import Derived.Shelf.Small.Strs
import Derived.Test.YtpfifochimkpfaaGreatDoorA13
import Derived.Test.YtpfifochimkpfaaGreatDoorA03
import Derived.Test.YtpfifochimkpfaaGreatDoorA14
import Derived.Test.YtpfifochimkpfaaGreatDoorA05
set_option maxRecDepth 100000
set_option maxHeartbeats 16000000
namespace Go.Proofs.YtpfifochimkpfaaGreatDoor
open Go.RowKit Go.WW
theorem akJ(s:Sl)(p:aH)(w:World)(hp:bK w s p)(hok:aZ p=true):Calls Tryz.prog 191 #[.agg (az s p)] w fun e w'=>∃s':Sl,e=.returned (.tuple #[.slice s'.a (fF p).length s'.cap,.int .i64 0])∧Below w.heap.size w w'∧bu w' (fresh w.heap.size w') fun x=>BytesAt x s'.a (fF p):=by
 obtain⟨hpn,hps,hpr⟩:=DZ hok
 have hp0:0<p.parts.length:=List.length_pos_iff.2 (tJ hok)
 have hB0:Below w.heap.size w (w.alloc (.cells (az s p) 35)):=ay (Below.refl _ _) _
 obtain⟨sa,scap⟩:=s
 obtain⟨b,o,ha,-,-⟩:=hp.1.get 0 hp0
 dsimp only at ha
 subst ha
 have hpL:=(hp.later hB0).1
 have XO:=hp.later hB0
 have HS:=Lib.hid hps
 go_enter Tryz.func191,Tryz.ntmps191
 go_wp2_with fail
 refine(ve _ _ _ XO).mono ?_
 rintro e wv ⟨rfl,hbv⟩
 rw[hok]
 obtain⟨hcc,bf,hrr⟩:=aQ hbv
 have hsz:w.heap.size<wv.heap.size:=by have:=hbv.size;simp at this;omega
 go_wp2_with fail
 have hcR:wv.cell? ⟨w.heap.size,1,none⟩=some (.string p.aJ):=by rw[hcc _ _ (by simp)];simp[go_sem]
 have hBv:=ag hB0 hbv
 replace hpL:=hpL.later hbv
 clear hcc bf hrr XO hbv
 go_loopw [4,13] (fun bv iv wr=>∃(k:Nat) (so:Sl) (L:List (List UInt8)),k≤p.parts.length∧iv=.int .i64 k∧bv=.slice so.a L.length so.cap∧ig 58 wv wr so L∧Hid (L=(p.parts.take k).map eY)) (fun _ i _=>p.parts.length-(intOf i).toNat)
 case atStart=>exact⟨0,⟨none,0⟩,[],Nat.zero_le _,rfl,rfl,ig.none _ (Below.refl _ _),rfl⟩
 case round=>
  obtain⟨k,so,L,hk,rfl,rfl,hH,HL⟩:=hrel
  obtain⟨hcc,bf,hrr⟩:=aQ hH.b
  have BC:L.length=k:=by rw[HL.out];simp;omega
  have II:=Lib.hid BC
  have hw1:wr.cell? ⟨w.heap.size,1,none⟩=some (.string p.aJ):=(hcc _ _ hsz).trans hcR
  have hwl:w.heap.size<wr.heap.size:=World.block_lt_of_cell? wr _ hw1
  clear BC hcc bf hrr
  by_cases hlt:k<p.parts.length
  ·obtain⟨hck,hsk⟩:=(hpL.later hH.b).at k hlt
   have hbb:b<wr.heap.size:=World.block_lt_of_cell? wr _ hck
   have hsz:p.parts[k].size≤32:=HS.out _ (List.getElem_mem hlt)
   obtain⟨L',hL'⟩:∃L',L'=(p.parts.take (k+1)).map eY:=⟨_,rfl⟩
   obtain⟨x,hx⟩:∃x,x=eY p.parts[k]:=⟨_,rfl⟩
   have HA:=Lib.hid (show L'=L++[x] by rw[hL',hx,vY _ hlt HL.out])
   have hLn:L'.length≤1000000:=by rw[hL',List.length_map,List.length_take];omega
   have kC:=Lib.hid hL'
   have HX:=Lib.hid hx
   clear hL' hx
   go_wp2_with fail
   refine(OH _ _ (Nat.le_trans hsz (by decide))).mono ?_
   rw[←HX.out]
   rintro e w2 ⟨s2,rfl,hb2,hd2⟩
   go_wp2_with (at_builtin;refine rY (L:=L') rfl _ _ _ rfl pX hH hb2 hd2 rfl rfl rfl rfl HA.out hLn ?_;intro s3 w3 hH3)
   go_roundw
   case rel=>exact⟨k+1,s3,L',by omega,by go_num,rfl,hH3,kC.out⟩
   case measure=>simp[intOf];omega
  ·have HE:=Lib.hid (show L=p.parts.map eY by rw[HL.out,vZ _ hlt])
   have hh:=hH.hist (by unfold lim;rw[II.out];omega)
   have hfl:=Ny hok
   rw[←HE.out]at hfl
   have HL0:=Lib.hid (show 0<L.length by rw[II.out];omega)
   have hT1:(dM L).length≤1000000:=by have:=uD L;omega
   have hT2:(eY p.aJ).length≤1000000:=by have:=DY p.aJ;omega
   have zS:[bQ 0 (dM L),bQ 1 (eY p.aJ)].flatten.length≤1000000:=by
    have h1:=Nz hok
    rw[←HE.out]at h1
    simp only[dR]at h1
    exact Nat.le_trans h1 (by decide)
   go_wp2_with fail
   refine nz (Below.refl _ wr) (by kernel_rfl) (by kernel_rfl) ?_
   intro w1 hb1
   repeat (first|(refine ai (by rfl) ?_)|(refine au (by rfl) (by rfl) (fun K hK=>?_);go_big_quiet_op;refine hK _ ?_;clear hK K))
   refine aB (by rfl) (by rfl) (fun K hK=>?_)
   go_wp2_with fail
   refine(xX _ _ L _ (hh.out.later hb1) HL0.out (by omega)).mono ?_
   rintro e w2 ⟨s2,rfl,hb2,hd2⟩
   have hb2':=ag hb1 hb2
   refine hK _ _ (aj hb2') ?_
   clear hK K
   repeat (first|(refine ai (by rfl) ?_)|(refine au (by rfl) (by rfl) (fun K hK=>?_);go_big_quiet_op;refine hK _ ?_;clear hK K))
   refine aB (by rfl) (by rfl) (fun K hK=>?_)
   go_wp2_with fail
   refine(I4 0 0 _ _ (dM L) _ rfl (by decide) hd2.out hT1).mono ?_
   rintro e w3 ⟨s3,rfl,hb3,hd3⟩
   have mG:=ag hb2' hb3
   refine hK _ _ (aj mG) ?_
   clear hK K
   repeat (first|(refine ai (by rfl) ?_)|(refine au (by rfl) (by rfl) (fun K hK=>?_);go_big_quiet_op;refine hK _ ?_;clear hK K))
   refine aB (by rfl) (by rfl) (fun K hK=>?_)
   go_wp2_with fail
   refine(OH _ _ (Nat.le_trans hpr (by decide))).mono ?_
   rintro e w4 ⟨s4,rfl,hb4,hd4⟩
   have iV:=ag mG hb4
   refine hK _ _ (aj iV) ?_
   clear hK K
   repeat (first|(refine ai (by rfl) ?_)|(refine au (by rfl) (by rfl) (fun K hK=>?_);go_big_quiet_op;refine hK _ ?_;clear hK K))
   refine aB (by rfl) (by rfl) (fun K hK=>?_)
   go_wp2_with fail
   refine(I4 1 1 _ _ (eY p.aJ) _ rfl (by decide) hd4.out hT2).mono ?_
   rintro e w5 ⟨s5,rfl,hb5,hd5⟩
   have bJ:=ag iV hb5
   refine hK _ _ (aj bJ) ?_
   clear hK K
   repeat (first|(refine ai (by rfl) ?_)|(refine au (by rfl) (by rfl) (fun K hK=>?_);go_big_quiet_op;refine hK _ ?_;clear hK K))
   refine aB (by rfl) (by rfl) (fun K hK=>?_)
   go_wp2_with fail
   refine hK _ _ (aj (ay bJ _)) ?_
   clear hK K
   repeat (first|(refine ai (by rfl) ?_)|(refine au (by rfl) (by rfl) (fun K hK=>?_);go_big_quiet_op;refine hK _ ?_;clear hK K))
   refine aB (by rfl) (by rfl) (fun K hK=>?_)
   go_wp2_with fail
   refine(xX _ _ [bQ 0 (dM L),bQ 1 (eY p.aJ)] _ (dY.lit [(s3,bQ 0 (dM L)),(s5,bQ 1 (eY p.aJ))] rfl rfl (fun x hx=>?_) (by simp[lim])) (by simp) zS).mono ?_
   ·simp only[List.mem_cons,List.not_mem_nil,or_false]at hx
    rcases hx with rfl|rfl
    ·exact(hd3.out.later hb4).later hb5
    ·exact hd5.out
   rintro e w6 ⟨s6,rfl,hb6,hd6⟩
   have uh:=ag (ay bJ _) hb6
   have hX:=ag (ag hBv hH.b) (ay bJ (.cells #[.slice s3.a (bQ 0 (dM L)).length s3.cap,.slice s5.a (bQ 1 (eY p.aJ)).length s5.cap] 58))
   have HB:=Lib.hid (And.intro (ag hX hb6) (hd6.to (S1:=fresh w.heap.size w6) (fun _ _=>rfl) (fun j hj=>⟨Nat.le_trans hX.size hj.1,hj.2⟩)))
   clear hX
   have HP:=Lib.hid (show fF p=dM [bQ 0 (dM L),bQ 1 (eY p.aJ)] by rw[HE.out];rfl)
   clear hb2 hd2 hb3 hd3 hb4 hd4 hb5 hd5 hb6 hd6 hH hh
   refine hK _ _ (aj uh) ?_
   clear hK K
   repeat (first|(refine ai (by rfl) ?_)|(refine au (by rfl) (by rfl) (fun K hK=>?_);go_big_quiet_op;refine hK _ ?_;clear hK K))
   refine bz ?_
   go_wp2_with fail
   go_ret2
   rw[HP.out]
   exact⟨s6,rfl,HB.out.1,HB.out.2⟩
theorem XP(s:Sl)(p:aH)(w:World)(hp:bK w s p)(hok:aZ p=true):Calls Tryz.prog 147 #[.agg (az s p)] w (bG w (fF p)):=by
 have hB0:Below w.heap.size w (w.alloc (.cells (az s p) 35)):=ay (Below.refl _ _) _
 have hpL:=hp.later hB0
 go_enter Tryz.func147,Tryz.ntmps147
 go_wp2_with fail
 refine(akJ _ _ _ hpL hok).mono ?_
 rintro e w1 ⟨s1,rfl,hb1,hd1⟩
 obtain⟨s2,hs2,hb2,hd2⟩:=bG.from (W:=w) ⟨s1,rfl,hb1,hd1⟩ hB0
 clear hpL
 go_wp2_with fail
 go_ret
 exact⟨s2,by rw[←hs2];rfl,hb2,hd2⟩
theorem OL(a:Option Addr)(cap:Nat)(l:List aH)(w:World)(h:fQ w a l)(hok:∀p∈l,aZ p=true)(h16:l.length≤16):Calls Tryz.prog 148 #[.slice a l.length cap,.func (.func 147) #[] #[]] w (bG w (dm (l.map fF))):=by
 rcases bH.addr h with h0|⟨b,o,rfl,hb⟩
 ·obtain rfl:l=[]:=List.eq_nil_of_length_eq_zero h0
  go_enter Tryz.func148,Tryz.ntmps148
  go_wp2_with fail
  go_ret
  exact pJ (Below.refl _ _)
 by_cases h0:l.length=0
 ·obtain rfl:l=[]:=List.eq_nil_of_length_eq_zero h0
  go_enter Tryz.func148,Tryz.ntmps148
  go_wp2_with fail
  go_ret
  exact pJ (Below.refl _ _)
 have hl0:((l.length:Int) == 0)=false:=beq_eq_false_iff_ne.2 (by omega)
 have HK:=Lib.hid hok
 have hfl:=map_le (f:=fF) (m:=205) (n:=16) (l:=l) (fun p hp=>IB (hok p hp)) h16
 have HF:=Lib.hid (Nat.le_trans hfl (by decide:16*205≤1000000))
 have HT:=Lib.hid (show dm (l.map fF)=dM (l.map fF) by unfold dm;rw[if_neg (by rw[List.length_map];exact h0)])
 have hpos:0<l.length:=by omega
 rw[HT.out]
 clear hok hfl h0
 go_enter Tryz.func148,Tryz.ntmps148
 go_wp2_with fail
 go_loopw [5,13] (fun bv iv wr=>∃(k:Nat) (so:Sl) (L:List (List UInt8)),k≤l.length∧iv=.int .i64 k∧bv=.slice so.a L.length so.cap∧ig 58 w wr so L∧Hid (L=(l.take k).map fF)) (fun _ iv _=>l.length-(intOf iv).toNat)
 case atStart=>exact⟨0,⟨none,0⟩,[],Nat.zero_le _,rfl,rfl,ig.none _ (Below.refl _ _),rfl⟩
 case round=>
  obtain⟨k,so,L,hk,rfl,rfl,hH,HL⟩:=hrel
  by_cases hlt:k<l.length
  ·obtain⟨t,hrow,hp⟩:=(h.later hH.b).at k hlt
   obtain⟨L',hL'⟩:∃L',L'=(l.take (k+1)).map fF:=⟨_,rfl⟩
   obtain⟨x,hx⟩:∃x,x=fF l[k]:=⟨_,rfl⟩
   have HA:=Lib.hid (show L'=L++[x] by rw[hL',hx,vY _ hlt HL.out])
   have hLn:L'.length≤1000000:=by rw[hL',List.length_map,List.length_take];omega
   have kC:=Lib.hid hL'
   have HX:=Lib.hid hx
   clear hL' hx
   go_wp2_with fail
   have hbn:Below wr.heap.size wr (wr.alloc (.cells (az t l[k]) 35)):=ay (Below.refl _ _) _
   refine(XP _ l[k] _ (hp.later hbn) (HK.out _ (List.getElem_mem hlt))).mono ?_
   rw[←HX.out]
   rintro e w2 ⟨s2,rfl,hb2,hd2⟩
   have hb2':=ag hbn hb2
   have zY:bu w2 (fresh wr.heap.size w2) (fun y=>BytesAt y s2.a x):=hd2.to (fun _ _=>rfl) (fun j hj=>⟨by have:=hj.1;simp at this;omega,hj.2⟩)
   clear hbn hb2 hd2
   go_wp2_with (at_builtin;refine rY (L:=L') rfl _ _ _ rfl pX hH hb2' zY rfl rfl rfl rfl HA.out hLn ?_;intro s3 w3 hH3)
   go_roundw
   case rel=>exact⟨k+1,s3,L',by omega,by go_num,rfl,hH3,kC.out⟩
   case measure=>simp[intOf];omega
  ·have HE:=Lib.hid (show L=l.map fF by rw[HL.out,vZ _ hlt])
   have hll:L.length=l.length:=by rw[HE.out,List.length_map]
   have hh:=(hH.hist (by unfold lim;omega)).out
   have hL0:0<L.length:=by omega
   rw[←HE.out]at HF ⊢
   clear hll
   go_wp2_with fail
   refine(xX _ _ L _ hh hL0 HF.out).mono ?_
   intro e w4 h4
   obtain⟨s4,rfl,hb4,hd4⟩:=bG.from h4 hH.b
   clear hH hh
   go_wp2_with fail
   go_ret
   rw[←HE.out]
   exact⟨s4,rfl,hb4,hd4⟩
theorem akM(a:Option Addr)(cap:Nat)(l:List Key)(w:World)(h:kF w a l)(hok:∀p∈l,zK p)(h16:l.length≤16):Calls Tryz.prog 195 #[.slice a l.length cap,.func (.func 196) #[] #[]] w (bG w (dm (l.map iH))):=by
 rcases bH.addr h with h0|⟨b,o,rfl,hb⟩
 ·obtain rfl:l=[]:=List.eq_nil_of_length_eq_zero h0
  go_enter Tryz.func195,Tryz.ntmps195
  go_wp2_with fail
  go_ret
  exact pJ (Below.refl _ _)
 by_cases h0:l.length=0
 ·obtain rfl:l=[]:=List.eq_nil_of_length_eq_zero h0
  go_enter Tryz.func195,Tryz.ntmps195
  go_wp2_with fail
  go_ret
  exact pJ (Below.refl _ _)
 have hl0:((l.length:Int) == 0)=false:=beq_eq_false_iff_ne.2 (by omega)
 have HK:=Lib.hid hok
 have hfl:=map_le (f:=iH) (m:=295) (n:=16) (l:=l) (fun p hp=>D5 (hok p hp)) h16
 have HF:=Lib.hid (Nat.le_trans hfl (by decide:16*295≤1000000))
 have HT:=Lib.hid (show dm (l.map iH)=dM (l.map iH) by unfold dm;rw[if_neg (by rw[List.length_map];exact h0)])
 have hpos:0<l.length:=by omega
 rw[HT.out]
 clear hok hfl h0
 go_enter Tryz.func195,Tryz.ntmps195
 go_wp2_with fail
 go_loopw [5,13] (fun bv iv wr=>∃(k:Nat) (so:Sl) (L:List (List UInt8)),k≤l.length∧iv=.int .i64 k∧bv=.slice so.a L.length so.cap∧ig 58 w wr so L∧Hid (L=(l.take k).map iH)) (fun _ iv _=>l.length-(intOf iv).toNat)
 case atStart=>exact⟨0,⟨none,0⟩,[],Nat.zero_le _,rfl,rfl,ig.none _ (Below.refl _ _),rfl⟩
 case round=>
  obtain⟨k,so,L,hk,rfl,rfl,hH,HL⟩:=hrel
  by_cases hlt:k<l.length
  ·obtain⟨t,hrow,hp⟩:=(h.later hH.b).at k hlt
   obtain⟨L',hL'⟩:∃L',L'=(l.take (k+1)).map iH:=⟨_,rfl⟩
   obtain⟨x,hx⟩:∃x,x=iH l[k]:=⟨_,rfl⟩
   have HA:=Lib.hid (show L'=L++[x] by rw[hL',hx,vY _ hlt HL.out])
   have hLn:L'.length≤1000000:=by rw[hL',List.length_map,List.length_take];omega
   have kC:=Lib.hid hL'
   have HX:=Lib.hid hx
   clear hL' hx
   go_wp2_with fail
   have hbn:Below wr.heap.size wr (wr.alloc (.cells (dD t l[k]) 176)):=ay (Below.refl _ _) _
   refine(akI _ l[k] _ (hp.later hbn) (HK.out _ (List.getElem_mem hlt))).mono ?_
   rw[←HX.out]
   rintro e w2 ⟨s2,rfl,hb2,hd2⟩
   have hb2':=ag hbn hb2
   have zY:bu w2 (fresh wr.heap.size w2) (fun y=>BytesAt y s2.a x):=hd2.to (fun _ _=>rfl) (fun j hj=>⟨by have:=hj.1;simp at this;omega,hj.2⟩)
   clear hbn hb2 hd2
   go_wp2_with (at_builtin;refine rY (L:=L') rfl _ _ _ rfl pX hH hb2' zY rfl rfl rfl rfl HA.out hLn ?_;intro s3 w3 hH3)
   go_roundw
   case rel=>exact⟨k+1,s3,L',by omega,by go_num,rfl,hH3,kC.out⟩
   case measure=>simp[intOf];omega
  ·have HE:=Lib.hid (show L=l.map iH by rw[HL.out,vZ _ hlt])
   have hll:L.length=l.length:=by rw[HE.out,List.length_map]
   have hh:=(hH.hist (by unfold lim;omega)).out
   have hL0:0<L.length:=by omega
   rw[←HE.out]at HF ⊢
   clear hll
   go_wp2_with fail
   refine(xX _ _ L _ hh hL0 HF.out).mono ?_
   intro e w4 h4
   obtain⟨s4,rfl,hb4,hd4⟩:=bG.from h4 hH.b
   clear hH hh
   go_wp2_with fail
   go_ret
   rw[←HE.out]
   exact⟨s4,rfl,hb4,hd4⟩
theorem akN(a:Option Addr)(cap:Nat)(l:List (List UInt8))(w:World)(h:dY w a l)(hok:∀p∈l,p.length=16)(h16:l.length≤16):Calls Tryz.prog 155 #[.slice a l.length cap,.func (.func 156) #[] #[]] w (bG w (dm (l.map gp))):=by
 rcases dO.addr h with h0|⟨b,o,rfl,hb⟩
 ·obtain rfl:l=[]:=List.eq_nil_of_length_eq_zero h0
  go_enter Tryz.func155,Tryz.ntmps155
  go_wp2_with fail
  go_ret
  exact pJ (Below.refl _ _)
 by_cases h0:l.length=0
 ·obtain rfl:l=[]:=List.eq_nil_of_length_eq_zero h0
  go_enter Tryz.func155,Tryz.ntmps155
  go_wp2_with fail
  go_ret
  exact pJ (Below.refl _ _)
 have hl0:((l.length:Int) == 0)=false:=beq_eq_false_iff_ne.2 (by omega)
 have HK:=Lib.hid hok
 have hfl:=map_le (f:=gp) (m:=21) (n:=16) (l:=l) (fun p hp=>by have:=Bz p;have:=hok p hp;omega) h16
 have HF:=Lib.hid (Nat.le_trans hfl (by decide:16*21≤1000000))
 have HT:=Lib.hid (show dm (l.map gp)=dM (l.map gp) by unfold dm;rw[if_neg (by rw[List.length_map];exact h0)])
 have hpos:0<l.length:=by omega
 rw[HT.out]
 clear hok hfl h0
 go_enter Tryz.func155,Tryz.ntmps155
 go_wp2_with fail
 go_loopw [5,13] (fun bv iv wr=>∃(k:Nat) (so:Sl) (L:List (List UInt8)),k≤l.length∧iv=.int .i64 k∧bv=.slice so.a L.length so.cap∧ig 58 w wr so L∧Hid (L=(l.take k).map gp)) (fun _ iv _=>l.length-(intOf iv).toNat)
 case atStart=>exact⟨0,⟨none,0⟩,[],Nat.zero_le _,rfl,rfl,ig.none _ (Below.refl _ _),rfl⟩
 case round=>
  obtain⟨k,so,L,hk,rfl,rfl,hH,HL⟩:=hrel
  by_cases hlt:k<l.length
  ·obtain⟨t,hrow,hp⟩:=(h.later hH.b).at k hlt
   obtain⟨L',hL'⟩:∃L',L'=(l.take (k+1)).map gp:=⟨_,rfl⟩
   obtain⟨x,hx⟩:∃x,x=gp l[k]:=⟨_,rfl⟩
   have HA:=Lib.hid (show L'=L++[x] by rw[hL',hx,vY _ hlt HL.out])
   have hLn:L'.length≤1000000:=by rw[hL',List.length_map,List.length_take];omega
   have kC:=Lib.hid hL'
   have HX:=Lib.hid hx
   clear hL' hx
   go_wp2_with fail
   refine(XD _ _ l[k] _ hp (by rw[HK.out _ (List.getElem_mem hlt)];decide)).mono ?_
   rw[←HX.out]
   rintro e w2 ⟨s2,rfl,hb2',zY⟩
   go_wp2_with (at_builtin;refine rY (L:=L') rfl _ _ _ rfl pX hH hb2' zY rfl rfl rfl rfl HA.out hLn ?_;intro s3 w3 hH3)
   go_roundw
   case rel=>exact⟨k+1,s3,L',by omega,by go_num,rfl,hH3,kC.out⟩
   case measure=>simp[intOf];omega
  ·have HE:=Lib.hid (show L=l.map gp by rw[HL.out,vZ _ hlt])
   have hll:L.length=l.length:=by rw[HE.out,List.length_map]
   have hh:=(hH.hist (by unfold lim;omega)).out
   have hL0:0<L.length:=by omega
   rw[←HE.out]at HF ⊢
   clear hll
   go_wp2_with fail
   refine(xX _ _ L _ hh hL0 HF.out).mono ?_
   intro e w4 h4
   obtain⟨s4,rfl,hb4,hd4⟩:=bG.from h4 hH.b
   clear hH hh
   go_wp2_with fail
   go_ret
   rw[←HE.out]
   exact⟨s4,rfl,hb4,hd4⟩
theorem akO(s:Sl)(k:bP)(w:World)(hk:kG w s k)(hf:zL k):Calls Tryz.prog 152 #[.agg (bY s k)] w (bG w (jg k)):=by
 have hfl:=ND hf
 have D9:=Lib.hid (Nat.le_trans hfl (by decide:1600≤1000000))
 have e1:=rX (v:=k.version.toNat) (k:=3) (by decide) (by have:=hf.version;simp;omega)
 have e2:=BA (f:=iH) (m:=295) (n:=4) (l:=k.keys) (fun k hk=>D5 (hf.keys k hk)) hf.few.2
 have e3:=IA k.dK
 have e4:=zJ (v:=k.dX.toNat) (k:=3) (by decide) (by have:=hf.dX;simp;omega)
 have e5:=Iz k.created.toNat
 obtain⟨f1,f2,f3,f4,f5,f6⟩:=hf
 have HE:Hid (∀x∈[eU k.version.toNat,dm (k.keys.map iH),jO k.dK,fP k.dX.toNat,lI k.created.toNat],x.length≤1000000):=by
  intro x hx
  simp only[List.mem_cons,List.not_mem_nil,or_false]at hx
  rcases hx with rfl|rfl|rfl|rfl|rfl<;>omega
 have HK:=Lib.hid f2
 have hB0:Below w.heap.size w (w.alloc (.cells (bY s k) 80)):=ay (Below.refl _ _) _
 have mP:=kF.later hB0 hk.1
 have HT:=Lib.hid (show jg k=lZ [eU k.version.toNat,dm (k.keys.map iH),jO k.dK,fP k.dX.toNat,lI k.created.toNat] from rfl)
 have hn4:k.keys.length≤16:=by omega
 rw[HT.out]
 clear hfl e1 e2 e3 e4 e5 f2
 go_enter Tryz.func152,Tryz.ntmps152
 go_wp2_with fail
 refine nz (Below.refl _ (w.alloc (.cells (bY s k) 80))) (by kernel_rfl) (by kernel_rfl) ?_
 intro v0 hv0
 have hP0:Ps (w.alloc (.cells (bY s k) 80)) v0 []:=⟨hv0,by simp⟩
 repeat (first|(refine ai (by rfl) ?_)|(refine au (by rfl) (by rfl) (fun K hK=>?_);go_big_quiet_op;refine hK _ ?_;clear hK K))
 refine aB (by rfl) (by rfl) (fun K hK=>?_)
 go_wp2_with fail
 refine(I5 _ _ f1.1 (by omega)).mono ?_
 rintro e v1 ⟨s1,rfl,hb1,hd1⟩
 have hP1:=hP0.add hb1 hd1.out
 clear hP0 hb1 hd1
 refine hK _ _ (aj hP1.b) ?_
 clear hK K
 repeat (first|(refine ai (by rfl) ?_)|(refine au (by rfl) (by rfl) (fun K hK=>?_);go_big_quiet_op;refine hK _ ?_;clear hK K))
 refine aB (by rfl) (by rfl) (fun K hK=>?_)
 go_wp2_with fail
 refine(akM _ _ k.keys _ (mP.later hP1.b) HK.out hn4).mono ?_
 rintro e v2 ⟨s2,rfl,hb2,hd2⟩
 have hP2:=hP1.add hb2 hd2.out
 clear hP1 hb2 hd2
 refine hK _ _ (aj hP2.b) ?_
 clear hK K
 repeat (first|(refine ai (by rfl) ?_)|(refine au (by rfl) (by rfl) (fun K hK=>?_);go_big_quiet_op;refine hK _ ?_;clear hK K))
 refine aB (by rfl) (by rfl) (fun K hK=>?_)
 go_wp2_with fail
 refine(XN _ _ (by omega)).mono ?_
 rintro e v3 ⟨s3,rfl,hb3,hd3⟩
 have hP3:=hP2.add hb3 hd3.out
 clear hP2 hb3 hd3
 refine hK _ _ (aj hP3.b) ?_
 clear hK K
 repeat (first|(refine ai (by rfl) ?_)|(refine au (by rfl) (by rfl) (fun K hK=>?_);go_big_quiet_op;refine hK _ ?_;clear hK K))
 refine aB (by rfl) (by rfl) (fun K hK=>?_)
 go_wp2_with fail
 refine(Ep _ _ f5.1 (by omega)).mono ?_
 rintro e v4 ⟨s4,rfl,hb4,hd4⟩
 have kD:=hP3.add hb4 hd4.out
 clear hP3 hb4 hd4
 refine hK _ _ (aj kD.b) ?_
 clear hK K
 repeat (first|(refine ai (by rfl) ?_)|(refine au (by rfl) (by rfl) (fun K hK=>?_);go_big_quiet_op;refine hK _ ?_;clear hK K))
 refine aB (by rfl) (by rfl) (fun K hK=>?_)
 go_wp2_with fail
 refine(XE _ _ f6.1 f6.2).mono ?_
 rintro e v5 ⟨s5,rfl,hb5,hd5⟩
 have jP:=kD.add hb5 hd5.out
 clear kD hb5 hd5
 refine hK _ _ (aj jP.b) ?_
 clear hK K
 repeat (first|(refine ai (by rfl) ?_)|(refine au (by rfl) (by rfl) (fun K hK=>?_);go_big_quiet_op;refine hK _ ?_;clear hK K))
 refine aB (by rfl) (by rfl) (fun K hK=>?_)
 go_wp2_with fail
 refine hK _ _ (aj (ay jP.b _)) ?_
 clear hK K
 repeat (first|(refine ai (by rfl) ?_)|(refine au (by rfl) (by rfl) (fun K hK=>?_);go_big_quiet_op;refine hK _ ?_;clear hK K))
 refine aB (by rfl) (by rfl) (fun K hK=>?_)
 go_wp2_with fail
 have hbn:=ay jP.b (.cells (nY [(s1,eU k.version.toNat),(s2,dm (k.keys.map iH)),(s3,jO k.dK),(s4,fP k.dX.toNat),(s5,lI k.created.toNat)]) 58)
 refine(XL v5.heap.size (w.alloc (.cells (bY s k) 80)).heap.size _ [(s1,eU k.version.toNat),(s2,dm (k.keys.map iH)),(s3,jO k.dK),(s4,fP k.dX.toNat),(s5,lI k.created.toNat)] _ (World.alloc_heap_new _ _) jP.b.size (fun x hx=>BytesAt.later (ay (Below.refl _ _) _) (jP.at_ x hx)) (by simp) (by simp) (fun x hx=>HE.out x.2 (by have:=List.mem_map_of_mem (f:=Prod.snd) hx;exact this)) D9.out).mono ?_
 rintro e vz ⟨sz,rfl,hbz,hdz⟩
 have sG:=hbn.trans hbz
 have HB:=Lib.hid (And.intro (ag hB0 sG) (hdz.to (S1:=fresh w.heap.size vz) (fun _ _=>rfl) (fun j hj=>⟨Nat.le_trans (ag hB0 hbn).size hj.1,hj.2⟩)))
 clear jP hbz hdz hbn
 refine hK _ _ (aj sG) ?_
 clear hK K
 repeat (first|(refine ai (by rfl) ?_)|(refine au (by rfl) (by rfl) (fun K hK=>?_);go_big_quiet_op;refine hK _ ?_;clear hK K))
 refine bz ?_
 go_wp2_with fail
 go_ret
 exact⟨sz,rfl,HB.out.1,HB.out.2⟩
theorem akP(a:Option Addr)(cap:Nat)(l:List bP)(w:World)(h:lL w a l)(hok:∀p∈l,zL p)(h16:l.length≤16):Calls Tryz.prog 151 #[.slice a l.length cap,.func (.func 152) #[] #[]] w (bG w (dm (l.map jg))):=by
 rcases bH.addr h with h0|⟨b,o,rfl,hb⟩
 ·obtain rfl:l=[]:=List.eq_nil_of_length_eq_zero h0
  go_enter Tryz.func151,Tryz.ntmps151
  go_wp2_with fail
  go_ret
  exact pJ (Below.refl _ _)
 by_cases h0:l.length=0
 ·obtain rfl:l=[]:=List.eq_nil_of_length_eq_zero h0
  go_enter Tryz.func151,Tryz.ntmps151
  go_wp2_with fail
  go_ret
  exact pJ (Below.refl _ _)
 have hl0:((l.length:Int) == 0)=false:=beq_eq_false_iff_ne.2 (by omega)
 have HK:=Lib.hid hok
 have hfl:=map_le (f:=jg) (m:=1605) (n:=16) (l:=l) (fun p hp=>NF (hok p hp)) h16
 have HF:=Lib.hid (Nat.le_trans hfl (by decide:16*1605≤1000000))
 have HT:=Lib.hid (show dm (l.map jg)=dM (l.map jg) by unfold dm;rw[if_neg (by rw[List.length_map];exact h0)])
 have hpos:0<l.length:=by omega
 rw[HT.out]
 clear hok hfl h0
 go_enter Tryz.func151,Tryz.ntmps151
 go_wp2_with fail
 go_loopw [5,13] (fun bv iv wr=>∃(k:Nat) (so:Sl) (L:List (List UInt8)),k≤l.length∧iv=.int .i64 k∧bv=.slice so.a L.length so.cap∧ig 58 w wr so L∧Hid (L=(l.take k).map jg)) (fun _ iv _=>l.length-(intOf iv).toNat)
 case atStart=>exact⟨0,⟨none,0⟩,[],Nat.zero_le _,rfl,rfl,ig.none _ (Below.refl _ _),rfl⟩
 case round=>
  obtain⟨k,so,L,hk,rfl,rfl,hH,HL⟩:=hrel
  by_cases hlt:k<l.length
  ·obtain⟨t,hrow,hp⟩:=(h.later hH.b).at k hlt
   obtain⟨L',hL'⟩:∃L',L'=(l.take (k+1)).map jg:=⟨_,rfl⟩
   obtain⟨x,hx⟩:∃x,x=jg l[k]:=⟨_,rfl⟩
   have HA:=Lib.hid (show L'=L++[x] by rw[hL',hx,vY _ hlt HL.out])
   have hLn:L'.length≤1000000:=by rw[hL',List.length_map,List.length_take];omega
   have kC:=Lib.hid hL'
   have HX:=Lib.hid hx
   clear hL' hx
   go_wp2_with fail
   have hbn:Below wr.heap.size wr (wr.alloc (.cells (bY t l[k]) 80)):=ay (Below.refl _ _) _
   refine(akO _ l[k] _ (kG.later hbn hp) (HK.out _ (List.getElem_mem hlt))).mono ?_
   rw[←HX.out]
   rintro e w2 ⟨s2,rfl,hb2,hd2⟩
   have hb2':=ag hbn hb2
   have zY:bu w2 (fresh wr.heap.size w2) (fun y=>BytesAt y s2.a x):=hd2.to (fun _ _=>rfl) (fun j hj=>⟨by have:=hj.1;simp at this;omega,hj.2⟩)
   clear hbn hb2 hd2
   go_wp2_with (at_builtin;refine rY (L:=L') rfl _ _ _ rfl pX hH hb2' zY rfl rfl rfl rfl HA.out hLn ?_;intro s3 w3 hH3)
   go_roundw
   case rel=>exact⟨k+1,s3,L',by omega,by go_num,rfl,hH3,kC.out⟩
   case measure=>simp[intOf];omega
  ·have HE:=Lib.hid (show L=l.map jg by rw[HL.out,vZ _ hlt])
   have hll:L.length=l.length:=by rw[HE.out,List.length_map]
   have hh:=(hH.hist (by unfold lim;omega)).out
   have hL0:0<L.length:=by omega
   rw[←HE.out]at HF ⊢
   clear hll
   go_wp2_with fail
   refine(xX _ _ L _ hh hL0 HF.out).mono ?_
   intro e w4 h4
   obtain⟨s4,rfl,hb4,hd4⟩:=bG.from h4 hH.b
   clear hH hh
   go_wp2_with fail
   go_ret
   rw[←HE.out]
   exact⟨s4,rfl,hb4,hd4⟩
theorem akQ(r:aK)(d:Entry)(w:World)(he:aS w r d)(hf:zM d):Calls Tryz.prog 90 #[.agg (ae r d)] w (bG w (pI d)):=by
 have hB0:Below w.heap.size w (w.alloc (.cells (ae r d) 44)):=ay (Below.refl _ _) _
 have nV:=he.later hB0
 have HE:=Lib.hid (fun x hx=>Nat.le_trans (NH hf x hx) (by decide:26000≤1000000))
 have D9:=Lib.hid (Nat.le_trans (NI hf) (by decide:416080≤1000000))
 have HT:=Lib.hid (show pI d=lZ (oM d) from rfl)
 obtain⟨f1,f2,f3,f4,f5,f6,f7,f8,f9,f10,f11,f12,f13,f14,f15,f16⟩:=hf
 have F1:=Lib.hid f1;have F2:=Lib.hid f2;have F5:=Lib.hid f5;have XQ:=Lib.hid f14;have XR:=Lib.hid f15;have XT:=Lib.hid f16
 have F3:=Lib.hid f3;have F4:=Lib.hid f4;have F6:=Lib.hid f6;have F7:=Lib.hid f7;have F8:=Lib.hid f8;have F9:=Lib.hid f9;have F10:=Lib.hid f10;have F11:=Lib.hid f11;have XU:=Lib.hid f12;have XV:=Lib.hid f13
 clear f1 f2 f5 f14 f15 f16 f4 f6 f7 f8 f9 f10 f11 f12 f13
 rw[HT.out]
 go_enter Tryz.func90,Tryz.ntmps90
 go_wp2_with fail
 refine nz (Below.refl _ (w.alloc (.cells (ae r d) 44))) (by kernel_rfl) (by kernel_rfl) ?_
 intro v0 hv0
 have hP0:Ps (w.alloc (.cells (ae r d) 44)) v0 []:=⟨hv0,by simp⟩
 repeat (first|(refine ai (by rfl) ?_)|(refine au (by rfl) (by rfl) (fun K hK=>?_);go_big_quiet_op;refine hK _ ?_;clear hK K))
 refine aB (by rfl) (by rfl) (fun K hK=>?_)
 go_wp2_with fail
 refine(XP _ _ _ (nV.name.later hP0.b) F1.out).mono ?_
 rintro e v1 ⟨s1,rfl,hb1,hd1⟩
 have hP1:=hP0.add hb1 hd1.out
 clear hP0 hb1 hd1
 refine hK _ _ (aj hP1.b) ?_
 clear hK K
 repeat (first|(refine ai (by rfl) ?_)|(refine au (by rfl) (by rfl) (fun K hK=>?_);go_big_quiet_op;refine hK _ ?_;clear hK K))
 refine aB (by rfl) (by rfl) (fun K hK=>?_)
 go_wp2_with fail
 refine(OL _ _ _ _ (nV.aliases.later hP1.b) F2.out.1 F2.out.2).mono ?_
 rintro e v2 ⟨s2,rfl,hb2,hd2⟩
 have hP2:=hP1.add hb2 hd2.out
 clear hP1 hb2 hd2
 refine hK _ _ (aj hP2.b) ?_
 clear hK K
 repeat (first|(refine ai (by rfl) ?_)|(refine au (by rfl) (by rfl) (fun K hK=>?_);go_big_quiet_op;refine hK _ ?_;clear hK K))
 refine aB (by rfl) (by rfl) (fun K hK=>?_)
 go_wp2_with fail
 refine(akz _ _ F3.out.1 (by have:=F3.out.2;omega)).mono ?_
 rintro e v3 ⟨s3,rfl,hb3,hd3⟩
 have hP3:=hP2.add hb3 hd3.out
 clear hP2 hb3 hd3
 refine hK _ _ (aj hP3.b) ?_
 clear hK K
 repeat (first|(refine ai (by rfl) ?_)|(refine au (by rfl) (by rfl) (fun K hK=>?_);go_big_quiet_op;refine hK _ ?_;clear hK K))
 refine aB (by rfl) (by rfl) (fun K hK=>?_)
 go_wp2_with fail
 refine(Ep _ _ F4.out.1 (by have:=F4.out;omega)).mono ?_
 rintro e v4 ⟨s4,rfl,hb4,hd4⟩
 have kD:=hP3.add hb4 hd4.out
 clear hP3 hb4 hd4
 refine hK _ _ (aj kD.b) ?_
 clear hK K
 repeat (first|(refine ai (by rfl) ?_)|(refine au (by rfl) (by rfl) (fun K hK=>?_);go_big_quiet_op;refine hK _ ?_;clear hK K))
 refine aB (by rfl) (by rfl) (fun K hK=>?_)
 go_wp2_with fail
 refine(akP _ _ _ _ (nV.keys.later kD.b) F5.out.1 F5.out.2).mono ?_
 rintro e v5 ⟨s5,rfl,hb5,hd5⟩
 have jP:=kD.add hb5 hd5.out
 clear kD hb5 hd5
 refine hK _ _ (aj jP.b) ?_
 clear hK K
 repeat (first|(refine ai (by rfl) ?_)|(refine au (by rfl) (by rfl) (fun K hK=>?_);go_big_quiet_op;refine hK _ ?_;clear hK K))
 refine aB (by rfl) (by rfl) (fun K hK=>?_)
 go_wp2_with fail
 refine(XN _ _ (Nat.le_trans F6.out (by decide))).mono ?_
 rintro e v6 ⟨s6,rfl,hb6,hd6⟩
 have oN:=jP.add hb6 hd6.out
 clear jP hb6 hd6
 refine hK _ _ (aj oN.b) ?_
 clear hK K
 repeat (first|(refine ai (by rfl) ?_)|(refine au (by rfl) (by rfl) (fun K hK=>?_);go_big_quiet_op;refine hK _ ?_;clear hK K))
 refine aB (by rfl) (by rfl) (fun K hK=>?_)
 go_wp2_with fail
 refine(I7 _ _ F7.out.1 F7.out.2).mono ?_
 rintro e v7 ⟨s7,rfl,hb7,hd7⟩
 have rZ:=oN.add hb7 hd7.out
 clear oN hb7 hd7
 refine hK _ _ (aj rZ.b) ?_
 clear hK K
 repeat (first|(refine ai (by rfl) ?_)|(refine au (by rfl) (by rfl) (fun K hK=>?_);go_big_quiet_op;refine hK _ ?_;clear hK K))
 refine aB (by rfl) (by rfl) (fun K hK=>?_)
 go_wp2_with fail
 refine(I7 _ _ F8.out.1 F8.out.2).mono ?_
 rintro e v8 ⟨s8,rfl,hb8,hd8⟩
 have pK:=rZ.add hb8 hd8.out
 clear rZ hb8 hd8
 refine hK _ _ (aj pK.b) ?_
 clear hK K
 repeat (first|(refine ai (by rfl) ?_)|(refine au (by rfl) (by rfl) (fun K hK=>?_);go_big_quiet_op;refine hK _ ?_;clear hK K))
 refine aB (by rfl) (by rfl) (fun K hK=>?_)
 go_wp2_with fail
 refine(Ep _ _ F9.out.1 (by have:=F9.out;omega)).mono ?_
 rintro e v9 ⟨s9,rfl,iG,hd9⟩
 have xQ:=pK.add iG hd9.out
 clear pK iG hd9
 refine hK _ _ (aj xQ.b) ?_
 clear hK K
 repeat (first|(refine ai (by rfl) ?_)|(refine au (by rfl) (by rfl) (fun K hK=>?_);go_big_quiet_op;refine hK _ ?_;clear hK K))
 refine aB (by rfl) (by rfl) (fun K hK=>?_)
 go_wp2_with fail
 refine(Ep _ _ F10.out.1 (by have:=F10.out;omega)).mono ?_
 rintro e v10 ⟨s10,rfl,xG,hd10⟩
 have zT:=xQ.add xG hd10.out
 clear xQ xG hd10
 refine hK _ _ (aj zT.b) ?_
 clear hK K
 repeat (first|(refine ai (by rfl) ?_)|(refine au (by rfl) (by rfl) (fun K hK=>?_);go_big_quiet_op;refine hK _ ?_;clear hK K))
 refine aB (by rfl) (by rfl) (fun K hK=>?_)
 go_wp2_with fail
 refine(Ep _ _ F11.out.1 (by have:=F11.out;omega)).mono ?_
 rintro e v11 ⟨s11,rfl,rH,hd11⟩
 have sF:=zT.add rH hd11.out
 clear zT rH hd11
 refine hK _ _ (aj sF.b) ?_
 clear hK K
 repeat (first|(refine ai (by rfl) ?_)|(refine au (by rfl) (by rfl) (fun K hK=>?_);go_big_quiet_op;refine hK _ ?_;clear hK K))
 refine aB (by rfl) (by rfl) (fun K hK=>?_)
 go_wp2_with fail
 refine(I7 _ _ XU.out.1 XU.out.2).mono ?_
 rintro e v12 ⟨s12,rfl,fJ,xP⟩
 have nU:=sF.add fJ xP.out
 clear sF fJ xP
 refine hK _ _ (aj nU.b) ?_
 clear hK K
 repeat (first|(refine ai (by rfl) ?_)|(refine au (by rfl) (by rfl) (fun K hK=>?_);go_big_quiet_op;refine hK _ ?_;clear hK K))
 refine aB (by rfl) (by rfl) (fun K hK=>?_)
 go_wp2_with fail
 refine(I7 _ _ XV.out.1 XV.out.2).mono ?_
 rintro e v13 ⟨s13,rfl,H9,Ea⟩
 have I8:=nU.add H9 Ea.out
 clear nU H9 Ea
 refine hK _ _ (aj I8.b) ?_
 clear hK K
 repeat (first|(refine ai (by rfl) ?_)|(refine au (by rfl) (by rfl) (fun K hK=>?_);go_big_quiet_op;refine hK _ ?_;clear hK K))
 refine aB (by rfl) (by rfl) (fun K hK=>?_)
 go_wp2_with fail
 refine(OL _ _ _ _ (nV.targets.later I8.b) XQ.out.1 XQ.out.2).mono ?_
 rintro e v14 ⟨s14,rfl,zn,Eb⟩
 have xR:=I8.add zn Eb.out
 clear I8 zn Eb
 refine hK _ _ (aj xR.b) ?_
 clear hK K
 repeat (first|(refine ai (by rfl) ?_)|(refine au (by rfl) (by rfl) (fun K hK=>?_);go_big_quiet_op;refine hK _ ?_;clear hK K))
 refine aB (by rfl) (by rfl) (fun K hK=>?_)
 go_wp2_with fail
 refine(OL _ _ _ _ (nV.bW.later xR.b) XR.out.1 XR.out.2).mono ?_
 rintro e v15 ⟨s15,rfl,zq,Ec⟩
 have xU:=xR.add zq Ec.out
 clear xR zq Ec
 refine hK _ _ (aj xU.b) ?_
 clear hK K
 repeat (first|(refine ai (by rfl) ?_)|(refine au (by rfl) (by rfl) (fun K hK=>?_);go_big_quiet_op;refine hK _ ?_;clear hK K))
 refine aB (by rfl) (by rfl) (fun K hK=>?_)
 go_wp2_with fail
 refine(akN _ _ _ _ (nV.history.later xU.b) XT.out.1 XT.out.2).mono ?_
 rintro e v16 ⟨s16,rfl,hb16,Ed⟩
 have uH:=xU.add hb16 Ed.out
 clear xU hb16 Ed
 refine hK _ _ (aj uH.b) ?_
 clear hK K
 repeat (first|(refine ai (by rfl) ?_)|(refine au (by rfl) (by rfl) (fun K hK=>?_);go_big_quiet_op;refine hK _ ?_;clear hK K))
 refine aB (by rfl) (by rfl) (fun K hK=>?_)
 go_wp2_with fail
 refine hK _ _ (aj (ay uH.b _)) ?_
 clear hK K
 repeat (first|(refine ai (by rfl) ?_)|(refine au (by rfl) (by rfl) (fun K hK=>?_);go_big_quiet_op;refine hK _ ?_;clear hK K))
 refine aB (by rfl) (by rfl) (fun K hK=>?_)
 go_wp2_with fail
 have hbn:=ay uH.b (.cells (nY [(s1,fF d.name),(s2,dm (d.aliases.map fF)),(s3,uC d.attrs.toNat),(s4,fP d.fH.toNat),(s5,dm (d.keys.map jg)),(s6,jO d.aP),(s7,jf d.jS.toNat),(s8,jf d.jT.toNat),(s9,fP d.jF.toNat),(s10,fP d.jG.toNat),(s11,fP d.fails.toNat),(s12,jf d.dw.toNat),(s13,jf d.iw.toNat),(s14,dm (d.targets.map fF)),(s15,dm (d.bW.map fF)),(s16,dm (d.history.map gp))]) 58)
 refine(XL v16.heap.size (w.alloc (.cells (ae r d) 44)).heap.size _ [(s1,fF d.name),(s2,dm (d.aliases.map fF)),(s3,uC d.attrs.toNat),(s4,fP d.fH.toNat),(s5,dm (d.keys.map jg)),(s6,jO d.aP),(s7,jf d.jS.toNat),(s8,jf d.jT.toNat),(s9,fP d.jF.toNat),(s10,fP d.jG.toNat),(s11,fP d.fails.toNat),(s12,jf d.dw.toNat),(s13,jf d.iw.toNat),(s14,dm (d.targets.map fF)),(s15,dm (d.bW.map fF)),(s16,dm (d.history.map gp))] _ (World.alloc_heap_new _ _) uH.b.size (fun x hx=>BytesAt.later (ay (Below.refl _ _) _) (uH.at_ x hx)) (by simp) (by simp) (fun x hx=>HE.out x.2 (by have:=List.mem_map_of_mem (f:=Prod.snd) hx;exact this)) D9.out).mono ?_
 rintro e vz ⟨sz,rfl,hbz,hdz⟩
 have sG:=hbn.trans hbz
 have HB:=Lib.hid (And.intro (ag hB0 sG) (hdz.to (S1:=fresh w.heap.size vz) (fun _ _=>rfl) (fun j hj=>⟨Nat.le_trans (ag hB0 hbn).size hj.1,hj.2⟩)))
 clear uH hbz hdz hbn
 refine hK _ _ (aj sG) ?_
 clear hK K
 repeat (first|(refine ai (by rfl) ?_)|(refine au (by rfl) (by rfl) (fun K hK=>?_);go_big_quiet_op;refine hK _ ?_;clear hK K))
 refine bz ?_
 go_wp2_with fail
 go_ret
 exact⟨sz,rfl,HB.out.1,HB.out.2⟩
theorem akR(r:aK)(d:Entry)(w:World)(he:aS w r d)(hok:bI d=true):Calls Tryz.prog 53 #[.agg (ae r d)] w fun e w'=>∃s:Sl,e=.returned (.tuple #[.slice s.a (pI d).length s.cap,.int .i64 0])∧Below w.heap.size w w'∧BytesAt w' s.a (pI d):=by
 have hB0:Below w.heap.size w (w.alloc (.cells (ae r d) 44)):=ay (Below.refl _ _) _
 have nV:=he.later hB0
 have HF:=Lib.hid (NM hok he.attrs.1)
 go_enter Tryz.func53,Tryz.ntmps53
 go_wp2_with fail
 refine(yE _ _ _ nV).mono ?_
 rintro e w1 ⟨rfl,hb1⟩
 rw[hok]
 obtain⟨hcc,bf,hrr⟩:=aQ hb1
 have hsz:w.heap.size<w1.heap.size:=by have:=hb1.size;simp at this;omega
 go_wp2_with fail
 refine(akQ _ _ _ (nV.later hb1) HF.out).mono ?_
 rintro e w2 ⟨s2,rfl,hb2,hd2⟩
 have HB:=Lib.hid (And.intro (ag (ag hB0 hb1) hb2) hd2.out)
 clear nV hcc bf hrr hb1 hb2 hd2
 go_wp2_with fail
 go_ret2
 exact⟨s2,rfl,HB.out.1,HB.out.2⟩
def aot(w:World)(l:List (List UInt8))(e:Ending)(w':World):Prop:=∃s:Sl,e=.returned (.slice s.a l.length s.cap)∧Below w.heap.size w w'∧dY w' s.a l
end Go.Proofs.YtpfifochimkpfaaGreatDoor
namespace Go.Proofs
open Go.Shelf
def Tryz.lays106_ren:Go.Shelf.Ren:=⟨fun|106=>84|213=>139|265=>182|n=>n,fun|9=>9|3=>3|n=>n,fun|n=>n⟩
theorem Tryz.lays106:Go.Proofs.Lays.n106 Tryz.prog Tryz.lays106_ren:={
 mixed:=by kernel_rfl
 f106:=Tryz.func84.trans (congrArg some (by kernel_rfl))
 f213:=Tryz.func139.trans (congrArg some (by kernel_rfl))
 f265:=Tryz.func182.trans (congrArg some (by kernel_rfl))
 t3:=Tryz.underlying3
 a3:=Tryz.isAgg3
 z3:=Tryz.sizeOf3
 v3:=Tryz.zeroValue3
 t9:=Tryz.underlying9
 a9:=Tryz.isAgg9
 z9:=Tryz.sizeOf9
 v9:=Tryz.zeroValue9}
open Go.RowKit in
theorem Tryz.strings_Compare(a b:ByteArray)(w:World) :
  Calls Tryz.prog 84 #[.string a,.string b] w fun e w'=>e=.returned (.int .i64 (Lib.compareBytes a.data.toList b.data.toList))∧w'=w:=Any.strings_Compare Tryz.lays106 a b w
end Go.Proofs
namespace Go.WW
open Go.RowKit
theorem XW:∀a b:List UInt8,Lib.compareBytes a b=if Op.bytesLess a b then -1 else if Op.bytesLess b a then 1 else 0
 | [],[]=>by simp[Lib.compareBytes,Op.bytesLess]
 | [],_::_=>by simp[Lib.compareBytes,Op.bytesLess]
 |_::_,[]=>by simp[Lib.compareBytes,Op.bytesLess]
 |a::l,b::m=>by
  have ih:=XW l m
  unfold Lib.compareBytes Op.bytesLess
  by_cases h1:a<b
  ·simp[h1]
  ·by_cases h2:b<a
   ·have hne:¬a=b:=fun e=>by subst e;exact h1 h2
    simp[h1,h2,hne]
   ·have e:a=b:=by
     apply UInt8.le_antisymm
     ·exact UInt8.not_lt.1 h2
     ·exact UInt8.not_lt.1 h1
    subst e
    simp[h1,ih]
theorem akS(a b:ByteArray):Lib.compareBytes a.data.toList b.data.toList=dB a b:=by
 unfold dB;rw[ByteArray.toList_eq,ByteArray.toList_eq];exact XW _ _
def mZ(w:World)(a:Option Addr)(X:List ah):Prop:=bH w 10 a X.length fun i cs=>∃x,X[i]?=some x∧cs=ak x
theorem mZ.later{w w':World}(h:Below w.heap.size w w'){a:Option Addr}{X:List ah}(x:mZ w a X):mZ w' a X:=bH.later h (fun _ _ y=>y) x
theorem mZ.at{w:World}{b o:Nat}{X:List ah}(x:mZ w (some ⟨b,o,none⟩) X)(i:Nat)(h:i<X.length):row? w b (o+i*10) 10=some (ak X[i]):=by
 obtain⟨b',o',cs,ha,hr,y,hy,rfl⟩:=x.2 i h
 cases ha
 rw[List.getElem?_eq_getElem h]at hy
 cases hy;exact hr
theorem mZ.iM{w:World}{base:Nat}{e:TypeId}{s:Sl}{X:List ah}(h:Own w base e 10 s (X.map ak))(hn:X.length≤lim):mZ w s.a X:=
 bH.iM h (by simp) hn (fun i hi=>⟨X[i]'(by simpa using hi),List.getElem?_eq_getElem (by simpa using hi),by simp⟩)
theorem mZ.put{w:World}{g:Nat}{Y:List ah}(h:mZ w (some ⟨g,0,none⟩) Y)(ho:Open w g (Y.length*10)){i:Nat}(hi:i<Y.length)(x:ah):mZ (putRow w g (0+i*10) (ak x)) (some ⟨g,0,none⟩) (Y.set i x):=by
 refine⟨by simpa using h.1,fun j hj=>?_⟩
 have hj':j<Y.length:=by simpa using hj
 have hs:=og x
 by_cases e:j=i
 ·subst e
  exact⟨g,0,_,rfl,TK ho (og x) (by omega),x,by simp[hj'],rfl⟩
 ·obtain⟨b,o,cs,ha,hr,y,hy,rfl⟩:=h.2 j hj'
  cases ha
  refine⟨g,0,_,rfl,(TJ ho (by omega) (by omega)).trans hr,y,by rw[List.getElem?_set_ne (by omega)];exact hy,rfl⟩
theorem mZ.block{w x:World}{g:Nat}{Y:List ah}(h:mZ w (some ⟨g,0,none⟩) Y)(e:x.heap[g]?=w.heap[g]?):mZ x (some ⟨g,0,none⟩) Y:=by
 refine⟨h.1,fun i hi=>?_⟩
 obtain⟨b,o,cs,ha,hr,hy⟩:=h.2 i hi
 cases ha
 exact⟨g,0,cs,rfl,(fG e _ _).trans hr,hy⟩
theorem Own.akT{w:World}{base:Nat}{e:TypeId}{s:Sl}{rows:List (Array Value)}{g:Nat}(h:Own w base e 10 s rows)(hg:s.a=some ⟨g,0,none⟩):Open w g (rows.length*10):=by
 rcases h.own.2 with⟨hv,_⟩|⟨g',cap,cur,hv,_,hh,hle,_,hsz,_⟩
 ·rw[hg]at hv;cases hv
 ·have ha:s.a=some ⟨g',0,none⟩:=by injection hv
  rw[hg]at ha;cases ha
  exact⟨cur,e,hh,by rw[hsz];exact Nat.mul_le_mul_right _ hle⟩
abbrev ng(q:ah):ByteArray:=q.name
end Go.WW
namespace Go.Proofs.YtpfifochimkpfaaGreatDoor
open Go.RowKit Go.WW
theorem akU:fV Tryz.prog 22 52 10 88:=fV.of Tryz.underlying22 (by kernel_rfl)
theorem XX(p q:ah)(w:World):Calls Tryz.prog 83 #[.agg (ak p),.agg (ak q)] w fun e w'=>e=.returned (.int .i64 (dB p.name q.name))∧Below w.heap.size w w':=by
 have hB:Below w.heap.size w ((w.alloc (.cells (ak p) 52)).alloc (.cells (ak q) 52)):=((Below.refl _ _).alloc (Nat.le_refl _) _).alloc (by simp) _
 go_enter Tryz.func83,Tryz.ntmps83
 go_wp2_with fail
 refine(Tryz.strings_Compare _ _ _).mono ?_
 rintro e w' ⟨rfl,rfl⟩
 go_wp2_with fail
 go_ret
 exact⟨by rw[akS];rfl,hB⟩
end Go.Proofs.YtpfifochimkpfaaGreatDoor
namespace Go.WW
open Go.RowKit
def Es(w:World)(g:Nat)(T:TypeId):Prop:=∃c,w.heap[g]?=some (.cells c T)
theorem Es.put{w:World}{g n o:Nat}{T:TypeId}{cs:Array Value}(h:Es w g T)(ho:Open w g n)(hc:o+cs.size≤n):Es (putRow w g o cs) g T:=by
 obtain⟨c,hc1⟩:=h
 obtain⟨c',t',hc2,hn⟩:=ho
 rw[hc1]at hc2
 cases hc2
 exact⟨_,jk hc1 (by omega)⟩
structure lq(g:Nat)(X Y:List ah)(w0 w:World):Prop where
 perm:Y.Perm X
 but:But (·=g) w0 w
 rows:mZ w (some ⟨g,0,none⟩) Y
 opn:Open w g (Y.length*10)
 typ:Es w g 52
theorem lq.step{g:Nat}{X Y:List ah}{w0 w w':World}(h:lq g X Y w0 w)(hb:Below w.heap.size w w'):lq g X Y w0 w':=by
 obtain⟨c,t,hc,_⟩:=h.opn
 have e:=hb.block g (Array.getElem?_eq_some_iff.1 hc).1
 exact⟨h.perm,h.but.trans (But.of_below hb),h.rows.later hb,h.opn.at e,by obtain⟨c,hc⟩:=h.typ;exact⟨c,e.trans hc⟩⟩
theorem lq.drew{g:Nat}{X Y:List ah}{w0 w:World}(h:lq g X Y w0 w):lq g X Y w0 w.drew:=h.step (Below.refl _ _).drew
theorem lq.swap{g:Nat}{X Y:List ah}{w0 w:World}(h:lq g X Y w0 w){j:Nat}(h1:j+1<Y.length):lq g X ((Y.set (j+1) Y[j]).set j Y[j+1]) w0 (putRow (putRow w g ((j+1)*10) (ak Y[j])) g (j*10) (ak Y[j+1])):=by
 have r1:=h.rows.put h.opn h1 Y[j]
 have s1:=og Y[j]
 have s2:=og Y[j+1]
 have o1:Open (putRow w g (0+(j+1)*10) (ak Y[j])) g (Y.length*10):=h.opn.put (by omega)
 have r2:=r1.put (by simpa using o1) (i:=j) (by simp;omega) Y[j+1]
 rw[Nat.zero_add]at r2 o1
 rw[Nat.zero_add]at r2
 exact⟨(swap_perm h1).trans h.perm,(h.but.put rfl).put rfl,r2,by simpa using o1.put (by omega),(h.typ.put h.opn (by omega)).put o1 (by omega)⟩
end Go.WW
namespace Go.Proofs.YtpfifochimkpfaaGreatDoor
open Go.RowKit Go.WW
theorem akV(g cap:Nat)(X:List ah)(w:World)(hn:X.length≤12)(hX:lq g X X w w)(hD:(X.map ng).Nodup) :
  Calls Tryz.prog 209 #[.slice (some ⟨g,0,none⟩) X.length cap,.int .i64 0,.int .i64 X.length,.func (.func 83) #[] #[]] w fun e w'=>e=.returned (.tuple #[])∧∃Y,lq g X Y w w'∧Sorted dB ng Y:=by
 have HD:=Lib.hid hD
 clear hD
 go_enter Tryz.func209,Tryz.ntmps209
 go_wp2_with fail
 go_loopw [8] (fun iv wr=>∃(i:Nat) (Y:List ah),1≤i∧i≤13∧iv=.int .i64 i∧Hid (lq g X Y w wr)∧Hid (Sorted dB ng (Y.take i))) (fun iv _=>13-(intOf iv).toNat)
 case atStart=>exact⟨1,X,Nat.le_refl _,by omega,rfl,hX,by cases X<;>simp[Hid,Sorted]⟩
 case round=>
  obtain⟨i,Y,h1,h13,rfl,hS,hso⟩:=hrel
  have HL:=Lib.hid (hS.out.perm.length_eq)
  by_cases hlt:i<X.length
  ·have hki:(i:Int)<(X.length:Int):=by omega
   have HM:=Lib.hid (TF hso.out (by rw[HL.out];exact hlt))
   go_wp2_with fail
   clear hso HL
   go_loopw [9] (fun jv wr=>∃(j:Nat) (Y:List ah),j≤i∧jv=.int .i64 j∧Hid (lq g X Y w wr)∧Hid (Mid dB ng Y i j)) (fun jv _=>(intOf jv).toNat)
   case atStart=>exact⟨i,Y,Nat.le_refl _,rfl,hS,HM⟩
   case round=>
    clear hS HM
    obtain⟨j,Y,hj,rfl,hS,hM⟩:=hrel
    have HL:=Lib.hid (hS.out.perm.length_eq)
    cases j with
    |zero=>
     have HZ:=Lib.hid (mid_zero hM.out)
     go_wp2_with fail
     refine dN (Below.refl _ wr) (by kernel_rfl) (by kernel_rfl) ?_
     repeat (go_big_quiet_step (fail))
     refine wpQuiet_nil ?_
     intro w2 hb2
     have HS2:=Lib.hid (hS.out.step hb2)
     go_wp2_with fail
     go_roundw
     case rel=>exact⟨i+1,Y,by omega,by omega,by go_num,HS2.out,HZ.out⟩
     case measure=>simp[intOf];omega
    |succ j=>
     have hjl:j+1<Y.length:=by rw[HL.out];omega
     have hji:(0:Int)<((j+1:Nat):Int):=by omega
     have yJ:((j+1:Nat):Int)<(X.length:Int):=by omega
     have hr1:=hS.out.rows.at (j+1) hjl
     have hr0:=hS.out.rows.at j (by omega)
     rw[Nat.zero_add]at hr1 hr0
     have hgw:g<wr.heap.size:=fA hr1
     by_cases hc:dB Y[j+1].name Y[j].name<0
     ·have pg:=Lib.hid (mid_step hM.out hjl hc)
      have HS2:=Lib.hid (fun w2 hb2=>((hS.out.step (w':=w2) hb2)).drew.swap hjl)
      generalize Y[j+1]=x at *
      generalize Y[j]=z at *
      go_wp2_with fail
      refine dN (Below.refl _ wr) (by kernel_rfl) (by kernel_rfl) ?_
      repeat (go_big_quiet_step ((go_at_call 83;rename_i xw;exact Calls.iq (XX _ _ _))))
      refine wpQuiet_nil ?_
      intro w2 hb2
      go_wp2_with fail
      have hr1':row? w2 g ((j+1)*10) 10=some (ak x):=(fG (hb2.block g hgw) _ _).trans hr1
      have aft:row? w2 g (j*10) 10=some (ak z):=(fG (hb2.block g hgw) _ _).trans hr0
      have HO:=Lib.hid (hS.out.step hb2).opn
      have hp1:aX w2 g ((j+1)*10) 10=true:=HO.out.can (by omega)
      have hp0:aX (putRow w2.drew g ((j+1)*10) (ak z)) g (j*10) 10=true:=Open.can (n:=Y.length*10) (Open.put (HO.out.at rfl) (by show(j+1)*10+10≤_;omega)) (by omega)
      have Dl:Hid (lq g X ((Y.set (j+1) z).set j x) w (putRow (putRow w2.drew g ((j+1)*10) (ak z)) g (j*10) (ak x))):=HS2.out w2 hb2
      clear hr1 hr0 HS2 HO
      refine T3.TN (·=g) (But.refl _ w2) (by kernel_rfl) (by kernel_rfl) ?_
      repeat (first|(refine T3.ai (by rfl) ?_)|(refine T3.au (by rfl) (by rfl) (fun K hK=>?_);go_big_quiet_op;refine hK _ ?_;clear hK K)|(refine T3.AX (by rfl) (by rfl) (fun K hK=>?_);go_wp2_with fail))
      refine T3.aB (by rfl) (by rfl) (fun K hK=>?_)
      go_wp2_with fail
      have HB1:=Lib.hid (But.put (g:=g) (o:=(j+1)*10) (cs:=ak z) (S:=(·=g)) (But.refl _ w2).drew rfl)
      generalize putRow w2.drew g ((j+1)*10) (ak z)=V at *
      refine hK _ _ (fU HB1.out) ?_
      clear hK K
      repeat (first|(refine T3.ai (by rfl) ?_)|(refine T3.au (by rfl) (by rfl) (fun K hK=>?_);go_big_quiet_op;refine hK _ ?_;clear hK K)|(refine T3.AX (by rfl) (by rfl) (fun K hK=>?_);go_wp2_with fail))
      refine T3.aB (by rfl) (by rfl) (fun K hK=>?_)
      go_wp2_with fail
      have HB2:=Lib.hid (But.put (g:=g) (o:=j*10) (cs:=ak x) HB1.out rfl)
      generalize putRow V g (j*10) (ak x)=U at *
      refine hK _ _ (fU HB2.out) ?_
      clear hK K
      repeat (first|(refine T3.ai (by rfl) ?_)|(refine T3.au (by rfl) (by rfl) (fun K hK=>?_);go_big_quiet_op;refine hK _ ?_;clear hK K)|(refine T3.AX (by rfl) (by rfl) (fun K hK=>?_);go_wp2_with fail))
      refine T3.bz ?_
      go_wp2_with fail
      go_roundw
      case rel=>exact⟨j,(Y.set (j+1) z).set j x,by omega,rfl,Dl,pg⟩
      case measure=>simp[intOf]
     ·have HZ:=Lib.hid (TG oQ hM.out hjl ((hS.out.perm.map ng).nodup_iff.2 HD.out) hc)
      generalize Y[j+1]=x at *
      generalize Y[j]=z at *
      go_wp2_with fail
      refine dN (Below.refl _ wr) (by kernel_rfl) (by kernel_rfl) ?_
      repeat (go_big_quiet_step ((go_at_call 83;rename_i xw;exact Calls.iq (XX _ _ _))))
      refine wpQuiet_nil ?_
      intro w2 hb2
      have HS2:=Lib.hid (hS.out.step hb2)
      go_wp2_with fail
      go_roundw
      case rel=>exact⟨i+1,Y,by omega,by omega,by go_num,HS2.out,HZ.out⟩
      case measure=>simp[intOf];omega
  ·have hki:¬(i:Int)<(X.length:Int):=by omega
   go_wp2_with fail
   go_end0
   exact⟨rfl,Y,hS.out,by have:=hso.out;rwa[List.take_of_length_le (by rw[HL.out];omega)]at this⟩
end Go.Proofs.YtpfifochimkpfaaGreatDoor
