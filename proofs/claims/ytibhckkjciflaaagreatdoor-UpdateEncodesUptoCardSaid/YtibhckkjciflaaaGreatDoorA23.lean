/- A part of the proof. -/
import Derived.Test.YtibhckkjciflaaaGreatDoorA20
import Derived.Test.YtibhckkjciflaaaGreatDoorA22
import Derived.Test.YtibhckkjciflaaaGreatDoorA18
import Derived.Test.YtibhckkjciflaaaGreatDoorA16
import Derived.Lib.ItoaNum
set_option maxRecDepth 100000
set_option maxHeartbeats 16000000
namespace Go.Proofs.YtibhckkjciflaaaGreatDoor
open Go.RowKit Go.WW
theorem adV(s:Sl)(k:Key)(w:World)(hk:iR w s k)(hf:vX k):Calls Tryz.prog 258 #[.agg (bG s k)] w (aU w (dM k)):=by
 have hfl:=IP hf
 obtain⟨h1,h2,h3⟩:=hf
 have e1:=jd (v:=k.profile.toNat) (k:=1) (by decide) (by simp;omega)
 have e2:=jd (v:=k.version.toNat) (k:=3) (by decide) (by simp;omega)
 have e3:=tN k.bytes
 have hB0:Below w.heap.size w (w.alloc (.cells (bG s k) 151)):=az (Below.refl _ _) _
 have pF:BytesAt (w.alloc (.cells (bG s k) 151)) s.a k.bytes:=BytesAt.later hB0 hk
 have HK:=Lib.hid (show dM k=jT [aA k.profile.toNat,aA k.version.toNat,dP k.bytes] from rfl)
 have HE:=Lib.hid (show(∀x∈[aA k.profile.toNat,aA k.version.toNat,dP k.bytes],x.length≠0)∧∀x∈[aA k.profile.toNat,aA k.version.toNat,dP k.bytes],x.length≤1000000 by
  have n1:=(mJ 2 (qf k.profile.toNat)).1
  have n2:=(mJ 2 (qf k.version.toNat)).1
  have n3:=(mJ 4 k.bytes).1
  refine⟨?_,?_⟩<;>
  ·intro x hx
   simp only[List.mem_cons,List.not_mem_nil,or_false]at hx
   rcases hx with rfl|rfl|rfl<;>first|omega|(unfold aA;omega)|(unfold dP;omega))
 have HF:=Lib.hid (Nat.le_trans hfl (by decide:290≤1000000))
 rw[HK.out]
 clear hfl e1 e2 e3
 have main:Calls Tryz.prog 297 #[.int .i64 k.profile,.int .i64 k.version,.slice s.a k.bytes.length s.cap] (w.alloc (.cells (bG s k) 151)) (aU (w.alloc (.cells (bG s k) 151)) (jT [aA k.profile.toNat,aA k.version.toNat,dP k.bytes])):=by
  generalize w.alloc (.cells (bG s k) 151)=W0 at *
  have hP0:Ps W0 W0 []:=⟨Below.refl _ _,by simp⟩
  go_enter Tryz.func297,Tryz.ntmps297
  go_wp2_with fail
  refine(uB _ _ h1.1 (by omega)).mono ?_
  rintro e w1 ⟨s1,rfl,hb1,hd1⟩
  have hP1:=hP0.add hb1 hd1.out
  go_wp2_with fail
  refine(uB _ _ h2.1 (by omega)).mono ?_
  rintro e w2 ⟨s2,rfl,hb2,hd2⟩
  have hP2:=hP1.add hb2 hd2.out
  go_wp2_with fail
  refine(JO _ _ k.bytes _ (pF.later hP2.b) (by omega)).mono ?_
  rintro e w3 ⟨s3,rfl,hb3,hd3⟩
  have hP3:=hP2.add hb3 hd3.out
  clear hP0 hP1 hP2 hb1 hd1 hb2 hd2 hb3 hd3
  go_wp2_with fail
  refine(acv _ _ [aA k.profile.toNat,aA k.version.toNat,dP k.bytes] _ (dH.lit _ rfl rfl hP3.at_ (by simp[lim])) (by simp) (by simp) HE.out.1 HE.out.2 HF.out).mono ?_
  intro e w4 h4
  obtain⟨s4,rfl,hb4,hd4⟩:=aU.from h4 (az hP3.b _)
  clear hP3
  go_wp2_with fail
  go_ret
  exact⟨s4,rfl,hb4,hd4⟩
 have HM:=Lib.hid main
 clear main
 go_enter Tryz.func258,Tryz.ntmps258
 go_wp2_with fail
 refine HM.out.mono ?_
 intro e w4 h4
 obtain⟨s4,rfl,hb4,hd4⟩:=aU.from h4 hB0
 go_wp2_with fail
 go_ret
 exact⟨s4,rfl,hb4,hd4⟩
theorem BB(v:Int)(w:World)(h0:0≤v)(hv:v<4611686018427387904):Calls Tryz.prog 217 #[.int .i64 v] w (aU w (fC v.toNat)):=by
 by_cases hz:v=0
 ·subst hz
  have HT:=Lib.hid (show fC (0:Int).toNat=[] from rfl)
  rw[HT.out]
  go_enter Tryz.func217,Tryz.ntmps217
  go_wp2_with fail
  go_ret
  exact nV (Below.refl _ _)
 ·have HT:=Lib.hid (show fC v.toNat=aA v.toNat by unfold fC;rw[if_neg (by omega)])
  have hz':(v == 0)=false:=beq_eq_false_iff_ne.2 hz
  have HC:=Lib.hid (uB v w h0 hv)
  rw[HT.out]
  clear hz h0 hv
  go_enter Tryz.func217,Tryz.ntmps217
  go_wp2_with fail
  refine HC.out.mono ?_
  rintro e w1 ⟨s1,rfl,hb1,hd1⟩
  go_wp2_with fail
  go_ret
  exact⟨s1,rfl,hb1,hd1⟩
theorem EN(v:Int)(w:World)(h0:0≤v)(hv:v≤1099511627776):Calls Tryz.prog 221 #[.int .i64 v] w (aU w (iK v.toNat)):=by
 by_cases hz:v=0
 ·subst hz
  have HT:=Lib.hid (show iK (0:Int).toNat=[] from rfl)
  rw[HT.out]
  go_enter Tryz.func221,Tryz.ntmps221
  go_wp2_with fail
  go_ret
  exact nV (Below.refl _ _)
 ·have HT:=Lib.hid (show iK v.toNat=bf v.toNat by unfold iK;rw[if_neg (by omega)])
  have hz':(v == 0)=false:=beq_eq_false_iff_ne.2 hz
  have HC:=Lib.hid (Bl v w h0 hv)
  rw[HT.out]
  clear hz h0 hv
  go_enter Tryz.func221,Tryz.ntmps221
  go_wp2_with fail
  refine HC.out.mono ?_
  rintro e w1 ⟨s1,rfl,hb1,hd1⟩
  go_wp2_with fail
  go_ret
  exact⟨s1,rfl,hb1,hd1⟩
theorem Ry(s:ByteArray)(w:World)(hs:s.size≤1000000):Calls Tryz.prog 220 #[.string s] w (aU w (jc s)):=by
 have hc:=Jt s
 cases hz:s.toList.isEmpty
 ·rw[hz]at hc
  have HT:=Lib.hid (show jc s=bM s from hc)
  have HC:=Lib.hid (Bj s w hs)
  rw[HT.out]
  clear hc hs
  go_enter Tryz.func220,Tryz.ntmps220
  go_wp2_with fail
  refine HC.out.mono ?_
  rintro e w1 ⟨s1,rfl,hb1,hd1⟩
  go_wp2_with fail
  go_ret
  exact⟨s1,rfl,hb1,hd1⟩
 ·rw[hz]at hc
  have HT:=Lib.hid (show jc s=[] from hc)
  rw[HT.out]
  clear hc hs
  go_enter Tryz.func220,Tryz.ntmps220
  go_wp2_with fail
  go_ret
  exact nV (Below.refl _ _)
theorem JW(s:Sl)(p:aG)(w:World)(hp:gu w s p)(hok:aY p=true):Calls Tryz.prog 155 #[.agg (aJ s p)] w fun e w'=>∃s':Sl,e=.returned (.tuple #[.slice s'.a (bP p).length s'.cap,.int .i64 0])∧Below w.heap.size w w'∧bg w' (fresh w.heap.size w') fun x=>BytesAt x s'.a (bP p):=by
 obtain⟨hpn,hps,hpr⟩:=Au hok
 have hp0:0<p.parts.length:=List.length_pos_iff.2 (yz hok)
 have hB0:Below w.heap.size w (w.alloc (.cells (aJ s p) 25)):=az (Below.refl _ _) _
 obtain⟨sa,scap⟩:=s
 obtain⟨b,o,ha,-,-⟩:=hp.1.get 0 hp0
 dsimp only at ha
 subst ha
 have hpL:=(hp.later hB0).1
 have Rz:=hp.later hB0
 have HS:=Lib.hid hps
 go_enter Tryz.func155,Tryz.ntmps155
 go_wp2_with fail
 refine(wz _ _ _ Rz).mono ?_
 rintro e wv ⟨rfl,hbv⟩
 rw[hok]
 obtain⟨hcc,ax,hrr⟩:=aK hbv
 have hsz:w.heap.size<wv.heap.size:=by have:=hbv.size;simp at this;omega
 go_wp2_with fail
 have hcR:wv.cell? ⟨w.heap.size,1,none⟩=some (.string p.aQ):=by rw[hcc _ _ (by simp)];simp[go_sem]
 have hBv:=af hB0 hbv
 replace hpL:=hpL.later hbv
 clear hcc ax hrr Rz hbv
 go_loopw [4,13] (fun bv iv wr=>∃(k:Nat) (so:Sl) (L:List (List UInt8)),k≤p.parts.length∧iv=.int .i64 k∧bv=.slice so.a L.length so.cap∧fE 41 wv wr so L∧Hid (L=(p.parts.take k).map bM)) (fun _ i _=>p.parts.length-(intOf i).toNat)
 case atStart=>exact⟨0,⟨none,0⟩,[],Nat.zero_le _,rfl,rfl,fE.none _ (Below.refl _ _),rfl⟩
 case round=>
  obtain⟨k,so,L,hk,rfl,rfl,hH,HL⟩:=hrel
  obtain⟨hcc,ax,hrr⟩:=aK hH.b
  have yE:L.length=k:=by rw[HL.out];simp;omega
  have Ew:=Lib.hid yE
  have hw1:wr.cell? ⟨w.heap.size,1,none⟩=some (.string p.aQ):=(hcc _ _ hsz).trans hcR
  have hwl:w.heap.size<wr.heap.size:=World.block_lt_of_cell? wr _ hw1
  clear yE hcc ax hrr
  by_cases hlt:k<p.parts.length
  ·obtain⟨hck,hsk⟩:=(hpL.later hH.b).at k hlt
   have hbb:b<wr.heap.size:=World.block_lt_of_cell? wr _ hck
   have hsz:p.parts[k].size≤32:=HS.out _ (List.getElem_mem hlt)
   obtain⟨L',hL'⟩:∃L',L'=(p.parts.take (k+1)).map bM:=⟨_,rfl⟩
   obtain⟨x,hx⟩:∃x,x=bM p.parts[k]:=⟨_,rfl⟩
   have HA:=Lib.hid (show L'=L++[x] by rw[hL',hx,rE _ hlt HL.out])
   have hLn:L'.length≤1000000:=by rw[hL',List.length_map,List.length_take];omega
   have jC:=Lib.hid hL'
   have HX:=Lib.hid hx
   clear hL' hx
   go_wp2_with fail
   refine(Bj _ _ (Nat.le_trans hsz (by decide))).mono ?_
   rw[←HX.out]
   rintro e w2 ⟨s2,rfl,hb2,hd2⟩
   go_wp2_with (at_builtin;refine lg (L:=L') rfl _ _ _ rfl jM hH hb2 hd2 rfl rfl rfl rfl HA.out hLn ?_;intro s3 w3 hH3)
   go_roundw
   case rel=>exact⟨k+1,s3,L',by omega,by go_num,rfl,hH3,jC.out⟩
   case measure=>simp[intOf];omega
  ·have HE:=Lib.hid (show L=p.parts.map bM by rw[HL.out,rF _ hlt])
   have hh:=hH.hist (by unfold lim;rw[Ew.out];omega)
   have hfl:=IL hok
   rw[←HE.out]at hfl
   have HL0:=Lib.hid (show 0<L.length by rw[Ew.out];omega)
   have hT1:(dE L).length≤1000000:=by have:=qh L;omega
   have hT2:(bM p.aQ).length≤1000000:=by have:=qU p.aQ;omega
   have Jp:[aB 0 (dE L),aB 1 (bM p.aQ)].flatten.length≤1000000:=by
    have h1:=IM hok
    rw[←HE.out]at h1
    simp only[bU]at h1
    exact Nat.le_trans h1 (by decide)
   go_wp2_with fail
   refine jr (Below.refl _ wr) (by kernel_rfl) (by kernel_rfl) ?_
   intro w1 hb1
   repeat (first|(refine ah (by rfl) ?_)|(refine ai (by rfl) (by rfl) (fun K hK=>?_);go_big_quiet_op;refine hK _ ?_;clear hK K))
   refine au (by rfl) (by rfl) (fun K hK=>?_)
   go_wp2_with fail
   refine(rG _ _ L _ (hh.out.later hb1) HL0.out (by omega)).mono ?_
   rintro e w2 ⟨s2,rfl,hb2,hd2⟩
   have hb2':=af hb1 hb2
   refine hK _ _ (ak hb2') ?_
   clear hK K
   repeat (first|(refine ah (by rfl) ?_)|(refine ai (by rfl) (by rfl) (fun K hK=>?_);go_big_quiet_op;refine hK _ ?_;clear hK K))
   refine au (by rfl) (by rfl) (fun K hK=>?_)
   go_wp2_with fail
   refine(Bo 0 0 _ _ (dE L) _ rfl (by decide) hd2.out hT1).mono ?_
   rintro e w3 ⟨s3,rfl,hb3,hd3⟩
   have AX:=af hb2' hb3
   refine hK _ _ (ak AX) ?_
   clear hK K
   repeat (first|(refine ah (by rfl) ?_)|(refine ai (by rfl) (by rfl) (fun K hK=>?_);go_big_quiet_op;refine hK _ ?_;clear hK K))
   refine au (by rfl) (by rfl) (fun K hK=>?_)
   go_wp2_with fail
   refine(Bj _ _ (Nat.le_trans hpr (by decide))).mono ?_
   rintro e w4 ⟨s4,rfl,hb4,hd4⟩
   have AY:=af AX hb4
   refine hK _ _ (ak AY) ?_
   clear hK K
   repeat (first|(refine ah (by rfl) ?_)|(refine ai (by rfl) (by rfl) (fun K hK=>?_);go_big_quiet_op;refine hK _ ?_;clear hK K))
   refine au (by rfl) (by rfl) (fun K hK=>?_)
   go_wp2_with fail
   refine(Bo 1 1 _ _ (bM p.aQ) _ rfl (by decide) hd4.out hT2).mono ?_
   rintro e w5 ⟨s5,rfl,hb5,hd5⟩
   have rq:=af AY hb5
   refine hK _ _ (ak rq) ?_
   clear hK K
   repeat (first|(refine ah (by rfl) ?_)|(refine ai (by rfl) (by rfl) (fun K hK=>?_);go_big_quiet_op;refine hK _ ?_;clear hK K))
   refine au (by rfl) (by rfl) (fun K hK=>?_)
   go_wp2_with fail
   refine hK _ _ (ak (az rq _)) ?_
   clear hK K
   repeat (first|(refine ah (by rfl) ?_)|(refine ai (by rfl) (by rfl) (fun K hK=>?_);go_big_quiet_op;refine hK _ ?_;clear hK K))
   refine au (by rfl) (by rfl) (fun K hK=>?_)
   go_wp2_with fail
   refine(rG _ _ [aB 0 (dE L),aB 1 (bM p.aQ)] _ (dH.lit [(s3,aB 0 (dE L)),(s5,aB 1 (bM p.aQ))] rfl rfl (fun x hx=>?_) (by simp[lim])) (by simp) Jp).mono ?_
   ·simp only[List.mem_cons,List.not_mem_nil,or_false]at hx
    rcases hx with rfl|rfl
    ·exact(hd3.out.later hb4).later hb5
    ·exact hd5.out
   rintro e w6 ⟨s6,rfl,hb6,hd6⟩
   have Jq:=af (az rq _) hb6
   have hX:=af (af hBv hH.b) (az rq (.cells #[.slice s3.a (aB 0 (dE L)).length s3.cap,.slice s5.a (aB 1 (bM p.aQ)).length s5.cap] 41))
   have HB:=Lib.hid (And.intro (af hX hb6) (hd6.to (S1:=fresh w.heap.size w6) (fun _ _=>rfl) (fun j hj=>⟨Nat.le_trans hX.size hj.1,hj.2⟩)))
   clear hX
   have HP:=Lib.hid (show bP p=dE [aB 0 (dE L),aB 1 (bM p.aQ)] by rw[HE.out];rfl)
   clear hb2 hd2 hb3 hd3 hb4 hd4 hb5 hd5 hb6 hd6 hH hh
   refine hK _ _ (ak Jq) ?_
   clear hK K
   repeat (first|(refine ah (by rfl) ?_)|(refine ai (by rfl) (by rfl) (fun K hK=>?_);go_big_quiet_op;refine hK _ ?_;clear hK K))
   refine iH ?_
   go_wp2_with fail
   go_ret2
   rw[HP.out]
   exact⟨s6,rfl,HB.out.1,HB.out.2⟩
theorem RD(s:Sl)(p:aG)(w:World)(hp:gu w s p)(hok:aY p=true):Calls Tryz.prog 214 #[.agg (aJ s p)] w (aU w (bP p)):=by
 have hB0:Below w.heap.size w (w.alloc (.cells (aJ s p) 25)):=az (Below.refl _ _) _
 have hpL:=hp.later hB0
 go_enter Tryz.func214,Tryz.ntmps214
 go_wp2_with fail
 refine(JW _ _ _ hpL hok).mono ?_
 rintro e w1 ⟨s1,rfl,hb1,hd1⟩
 obtain⟨s2,hs2,hb2,hd2⟩:=aU.from (W:=w) ⟨s1,rfl,hb1,hd1⟩ hB0
 clear hpL
 go_wp2_with fail
 go_ret
 exact⟨s2,by rw[←hs2];rfl,hb2,hd2⟩
theorem JX(a:Option Addr)(cap:Nat)(l:List aG)(w:World)(h:fH w a l)(hok:∀p∈l,aY p=true)(h16:l.length≤16):Calls Tryz.prog 215 #[.slice a l.length cap,.func (.func 214) #[] #[]] w (aU w (bW (l.map bP))):=by
 rcases cu.addr h with h0|⟨b,o,rfl,hb⟩
 ·obtain rfl:l=[]:=List.eq_nil_of_length_eq_zero h0
  go_enter Tryz.func215,Tryz.ntmps215
  go_wp2_with fail
  go_ret
  exact nV (Below.refl _ _)
 by_cases h0:l.length=0
 ·obtain rfl:l=[]:=List.eq_nil_of_length_eq_zero h0
  go_enter Tryz.func215,Tryz.ntmps215
  go_wp2_with fail
  go_ret
  exact nV (Below.refl _ _)
 have hl0:((l.length:Int) == 0)=false:=beq_eq_false_iff_ne.2 (by omega)
 have HK:=Lib.hid hok
 have hfl:=map_le (f:=bP) (m:=205) (n:=16) (l:=l) (fun p hp=>qW (hok p hp)) h16
 have HF:=Lib.hid (Nat.le_trans hfl (by decide:16*205≤1000000))
 have HT:=Lib.hid (show bW (l.map bP)=dE (l.map bP) by unfold bW;rw[if_neg (by rw[List.length_map];exact h0)])
 have hpos:0<l.length:=by omega
 rw[HT.out]
 clear hok hfl h0
 go_enter Tryz.func215,Tryz.ntmps215
 go_wp2_with fail
 go_loopw [5,13] (fun bv iv wr=>∃(k:Nat) (so:Sl) (L:List (List UInt8)),k≤l.length∧iv=.int .i64 k∧bv=.slice so.a L.length so.cap∧fE 41 w wr so L∧Hid (L=(l.take k).map bP)) (fun _ iv _=>l.length-(intOf iv).toNat)
 case atStart=>exact⟨0,⟨none,0⟩,[],Nat.zero_le _,rfl,rfl,fE.none _ (Below.refl _ _),rfl⟩
 case round=>
  obtain⟨k,so,L,hk,rfl,rfl,hH,HL⟩:=hrel
  by_cases hlt:k<l.length
  ·obtain⟨t,hrow,hp⟩:=(h.later hH.b).at k hlt
   obtain⟨L',hL'⟩:∃L',L'=(l.take (k+1)).map bP:=⟨_,rfl⟩
   obtain⟨x,hx⟩:∃x,x=bP l[k]:=⟨_,rfl⟩
   have HA:=Lib.hid (show L'=L++[x] by rw[hL',hx,rE _ hlt HL.out])
   have hLn:L'.length≤1000000:=by rw[hL',List.length_map,List.length_take];omega
   have jC:=Lib.hid hL'
   have HX:=Lib.hid hx
   clear hL' hx
   go_wp2_with fail
   have hbn:Below wr.heap.size wr (wr.alloc (.cells (aJ t l[k]) 25)):=az (Below.refl _ _) _
   refine(RD _ l[k] _ (hp.later hbn) (HK.out _ (List.getElem_mem hlt))).mono ?_
   rw[←HX.out]
   rintro e w2 ⟨s2,rfl,hb2,hd2⟩
   have hb2':=af hbn hb2
   have wJ:bg w2 (fresh wr.heap.size w2) (fun y=>BytesAt y s2.a x):=hd2.to (fun _ _=>rfl) (fun j hj=>⟨by have:=hj.1;simp at this;omega,hj.2⟩)
   clear hbn hb2 hd2
   go_wp2_with (at_builtin;refine lg (L:=L') rfl _ _ _ rfl jM hH hb2' wJ rfl rfl rfl rfl HA.out hLn ?_;intro s3 w3 hH3)
   go_roundw
   case rel=>exact⟨k+1,s3,L',by omega,by go_num,rfl,hH3,jC.out⟩
   case measure=>simp[intOf];omega
  ·have HE:=Lib.hid (show L=l.map bP by rw[HL.out,rF _ hlt])
   have hll:L.length=l.length:=by rw[HE.out,List.length_map]
   have hh:=(hH.hist (by unfold lim;omega)).out
   have hL0:0<L.length:=by omega
   rw[←HE.out]at HF ⊢
   clear hll
   go_wp2_with fail
   refine(rG _ _ L _ hh hL0 HF.out).mono ?_
   intro e w4 h4
   obtain⟨s4,rfl,hb4,hd4⟩:=aU.from h4 hH.b
   clear hH hh
   go_wp2_with fail
   go_ret
   rw[←HE.out]
   exact⟨s4,rfl,hb4,hd4⟩
theorem adY(a:Option Addr)(cap:Nat)(l:List Key)(w:World)(h:jw w a l)(hok:∀p∈l,vX p)(h16:l.length≤16):Calls Tryz.prog 257 #[.slice a l.length cap,.func (.func 258) #[] #[]] w (aU w (bW (l.map dM))):=by
 rcases cu.addr h with h0|⟨b,o,rfl,hb⟩
 ·obtain rfl:l=[]:=List.eq_nil_of_length_eq_zero h0
  go_enter Tryz.func257,Tryz.ntmps257
  go_wp2_with fail
  go_ret
  exact nV (Below.refl _ _)
 by_cases h0:l.length=0
 ·obtain rfl:l=[]:=List.eq_nil_of_length_eq_zero h0
  go_enter Tryz.func257,Tryz.ntmps257
  go_wp2_with fail
  go_ret
  exact nV (Below.refl _ _)
 have hl0:((l.length:Int) == 0)=false:=beq_eq_false_iff_ne.2 (by omega)
 have HK:=Lib.hid hok
 have hfl:=map_le (f:=dM) (m:=295) (n:=16) (l:=l) (fun p hp=>Aw (hok p hp)) h16
 have HF:=Lib.hid (Nat.le_trans hfl (by decide:16*295≤1000000))
 have HT:=Lib.hid (show bW (l.map dM)=dE (l.map dM) by unfold bW;rw[if_neg (by rw[List.length_map];exact h0)])
 have hpos:0<l.length:=by omega
 rw[HT.out]
 clear hok hfl h0
 go_enter Tryz.func257,Tryz.ntmps257
 go_wp2_with fail
 go_loopw [5,13] (fun bv iv wr=>∃(k:Nat) (so:Sl) (L:List (List UInt8)),k≤l.length∧iv=.int .i64 k∧bv=.slice so.a L.length so.cap∧fE 41 w wr so L∧Hid (L=(l.take k).map dM)) (fun _ iv _=>l.length-(intOf iv).toNat)
 case atStart=>exact⟨0,⟨none,0⟩,[],Nat.zero_le _,rfl,rfl,fE.none _ (Below.refl _ _),rfl⟩
 case round=>
  obtain⟨k,so,L,hk,rfl,rfl,hH,HL⟩:=hrel
  by_cases hlt:k<l.length
  ·obtain⟨t,hrow,hp⟩:=(h.later hH.b).at k hlt
   obtain⟨L',hL'⟩:∃L',L'=(l.take (k+1)).map dM:=⟨_,rfl⟩
   obtain⟨x,hx⟩:∃x,x=dM l[k]:=⟨_,rfl⟩
   have HA:=Lib.hid (show L'=L++[x] by rw[hL',hx,rE _ hlt HL.out])
   have hLn:L'.length≤1000000:=by rw[hL',List.length_map,List.length_take];omega
   have jC:=Lib.hid hL'
   have HX:=Lib.hid hx
   clear hL' hx
   go_wp2_with fail
   have hbn:Below wr.heap.size wr (wr.alloc (.cells (bG t l[k]) 151)):=az (Below.refl _ _) _
   refine(adV _ l[k] _ (hp.later hbn) (HK.out _ (List.getElem_mem hlt))).mono ?_
   rw[←HX.out]
   rintro e w2 ⟨s2,rfl,hb2,hd2⟩
   have hb2':=af hbn hb2
   have wJ:bg w2 (fresh wr.heap.size w2) (fun y=>BytesAt y s2.a x):=hd2.to (fun _ _=>rfl) (fun j hj=>⟨by have:=hj.1;simp at this;omega,hj.2⟩)
   clear hbn hb2 hd2
   go_wp2_with (at_builtin;refine lg (L:=L') rfl _ _ _ rfl jM hH hb2' wJ rfl rfl rfl rfl HA.out hLn ?_;intro s3 w3 hH3)
   go_roundw
   case rel=>exact⟨k+1,s3,L',by omega,by go_num,rfl,hH3,jC.out⟩
   case measure=>simp[intOf];omega
  ·have HE:=Lib.hid (show L=l.map dM by rw[HL.out,rF _ hlt])
   have hll:L.length=l.length:=by rw[HE.out,List.length_map]
   have hh:=(hH.hist (by unfold lim;omega)).out
   have hL0:0<L.length:=by omega
   rw[←HE.out]at HF ⊢
   clear hll
   go_wp2_with fail
   refine(rG _ _ L _ hh hL0 HF.out).mono ?_
   intro e w4 h4
   obtain⟨s4,rfl,hb4,hd4⟩:=aU.from h4 hH.b
   clear hH hh
   go_wp2_with fail
   go_ret
   rw[←HE.out]
   exact⟨s4,rfl,hb4,hd4⟩
theorem adZ(a:Option Addr)(cap:Nat)(l:List (List UInt8))(w:World)(h:dH w a l)(hok:∀p∈l,p.length=16)(h16:l.length≤16):Calls Tryz.prog 222 #[.slice a l.length cap,.func (.func 152) #[] #[]] w (aU w (bW (l.map dP))):=by
 rcases eu.addr h with h0|⟨b,o,rfl,hb⟩
 ·obtain rfl:l=[]:=List.eq_nil_of_length_eq_zero h0
  go_enter Tryz.func222,Tryz.ntmps222
  go_wp2_with fail
  go_ret
  exact nV (Below.refl _ _)
 by_cases h0:l.length=0
 ·obtain rfl:l=[]:=List.eq_nil_of_length_eq_zero h0
  go_enter Tryz.func222,Tryz.ntmps222
  go_wp2_with fail
  go_ret
  exact nV (Below.refl _ _)
 have hl0:((l.length:Int) == 0)=false:=beq_eq_false_iff_ne.2 (by omega)
 have HK:=Lib.hid hok
 have hfl:=map_le (f:=dP) (m:=21) (n:=16) (l:=l) (fun p hp=>by have:=tN p;have:=hok p hp;omega) h16
 have HF:=Lib.hid (Nat.le_trans hfl (by decide:16*21≤1000000))
 have HT:=Lib.hid (show bW (l.map dP)=dE (l.map dP) by unfold bW;rw[if_neg (by rw[List.length_map];exact h0)])
 have hpos:0<l.length:=by omega
 rw[HT.out]
 clear hok hfl h0
 go_enter Tryz.func222,Tryz.ntmps222
 go_wp2_with fail
 go_loopw [5,13] (fun bv iv wr=>∃(k:Nat) (so:Sl) (L:List (List UInt8)),k≤l.length∧iv=.int .i64 k∧bv=.slice so.a L.length so.cap∧fE 41 w wr so L∧Hid (L=(l.take k).map dP)) (fun _ iv _=>l.length-(intOf iv).toNat)
 case atStart=>exact⟨0,⟨none,0⟩,[],Nat.zero_le _,rfl,rfl,fE.none _ (Below.refl _ _),rfl⟩
 case round=>
  obtain⟨k,so,L,hk,rfl,rfl,hH,HL⟩:=hrel
  by_cases hlt:k<l.length
  ·obtain⟨t,hrow,hp⟩:=(h.later hH.b).at k hlt
   obtain⟨L',hL'⟩:∃L',L'=(l.take (k+1)).map dP:=⟨_,rfl⟩
   obtain⟨x,hx⟩:∃x,x=dP l[k]:=⟨_,rfl⟩
   have HA:=Lib.hid (show L'=L++[x] by rw[hL',hx,rE _ hlt HL.out])
   have hLn:L'.length≤1000000:=by rw[hL',List.length_map,List.length_take];omega
   have jC:=Lib.hid hL'
   have HX:=Lib.hid hx
   clear hL' hx
   go_wp2_with fail
   refine(JO _ _ l[k] _ hp (by rw[HK.out _ (List.getElem_mem hlt)];decide)).mono ?_
   rw[←HX.out]
   rintro e w2 ⟨s2,rfl,hb2',wJ⟩
   go_wp2_with (at_builtin;refine lg (L:=L') rfl _ _ _ rfl jM hH hb2' wJ rfl rfl rfl rfl HA.out hLn ?_;intro s3 w3 hH3)
   go_roundw
   case rel=>exact⟨k+1,s3,L',by omega,by go_num,rfl,hH3,jC.out⟩
   case measure=>simp[intOf];omega
  ·have HE:=Lib.hid (show L=l.map dP by rw[HL.out,rF _ hlt])
   have hll:L.length=l.length:=by rw[HE.out,List.length_map]
   have hh:=(hH.hist (by unfold lim;omega)).out
   have hL0:0<L.length:=by omega
   rw[←HE.out]at HF ⊢
   clear hll
   go_wp2_with fail
   refine(rG _ _ L _ hh hL0 HF.out).mono ?_
   intro e w4 h4
   obtain⟨s4,rfl,hb4,hd4⟩:=aU.from h4 hH.b
   clear hH hh
   go_wp2_with fail
   go_ret
   rw[←HE.out]
   exact⟨s4,rfl,hb4,hd4⟩
theorem ad1(s:Sl)(k:aW)(w:World)(hk:ig w s k)(hf:vY k):Calls Tryz.prog 219 #[.agg (aV s k)] w (aU w (iO k)):=by
 have hfl:=IQ hf
 have Ba:=Lib.hid (Nat.le_trans hfl (by decide:1600≤1000000))
 have e1:=jd (v:=k.version.toNat) (k:=3) (by decide) (by have:=hf.version;simp;omega)
 have e2:=yj (f:=dM) (m:=295) (n:=4) (l:=k.keys) (fun k hk=>Aw (hf.keys k hk)) hf.few.2
 have e3:=DZ k.bF
 have e4:=vS (v:=k.dm.toNat) (k:=3) (by decide) (by have:=hf.dm;simp;omega)
 have e5:=nM k.created.toNat
 obtain⟨f1,f2,f3,f4,f5,f6⟩:=hf
 have HE:Hid (∀x∈[aA k.version.toNat,bW (k.keys.map dM),jc k.bF,fC k.dm.toNat,bf k.created.toNat],x.length≤1000000):=by
  intro x hx
  simp only[List.mem_cons,List.not_mem_nil,or_false]at hx
  rcases hx with rfl|rfl|rfl|rfl|rfl<;>omega
 have HK:=Lib.hid f2
 have hB0:Below w.heap.size w (w.alloc (.cells (aV s k) 49)):=az (Below.refl _ _) _
 have pF:=jw.later hB0 hk.1
 have HT:=Lib.hid (show iO k=jT [aA k.version.toNat,bW (k.keys.map dM),jc k.bF,fC k.dm.toNat,bf k.created.toNat] from rfl)
 have hn4:k.keys.length≤16:=by omega
 rw[HT.out]
 clear hfl e1 e2 e3 e4 e5 f2
 go_enter Tryz.func219,Tryz.ntmps219
 go_wp2_with fail
 refine jr (Below.refl _ (w.alloc (.cells (aV s k) 49))) (by kernel_rfl) (by kernel_rfl) ?_
 intro v0 hv0
 have hP0:Ps (w.alloc (.cells (aV s k) 49)) v0 []:=⟨hv0,by simp⟩
 repeat (first|(refine ah (by rfl) ?_)|(refine ai (by rfl) (by rfl) (fun K hK=>?_);go_big_quiet_op;refine hK _ ?_;clear hK K))
 refine au (by rfl) (by rfl) (fun K hK=>?_)
 go_wp2_with fail
 refine(uB _ _ f1.1 (by omega)).mono ?_
 rintro e v1 ⟨s1,rfl,hb1,hd1⟩
 have hP1:=hP0.add hb1 hd1.out
 clear hP0 hb1 hd1
 refine hK _ _ (ak hP1.b) ?_
 clear hK K
 repeat (first|(refine ah (by rfl) ?_)|(refine ai (by rfl) (by rfl) (fun K hK=>?_);go_big_quiet_op;refine hK _ ?_;clear hK K))
 refine au (by rfl) (by rfl) (fun K hK=>?_)
 go_wp2_with fail
 refine(adY _ _ k.keys _ (pF.later hP1.b) HK.out hn4).mono ?_
 rintro e v2 ⟨s2,rfl,hb2,hd2⟩
 have hP2:=hP1.add hb2 hd2.out
 clear hP1 hb2 hd2
 refine hK _ _ (ak hP2.b) ?_
 clear hK K
 repeat (first|(refine ah (by rfl) ?_)|(refine ai (by rfl) (by rfl) (fun K hK=>?_);go_big_quiet_op;refine hK _ ?_;clear hK K))
 refine au (by rfl) (by rfl) (fun K hK=>?_)
 go_wp2_with fail
 refine(Ry _ _ (by omega)).mono ?_
 rintro e v3 ⟨s3,rfl,hb3,hd3⟩
 have hP3:=hP2.add hb3 hd3.out
 clear hP2 hb3 hd3
 refine hK _ _ (ak hP3.b) ?_
 clear hK K
 repeat (first|(refine ah (by rfl) ?_)|(refine ai (by rfl) (by rfl) (fun K hK=>?_);go_big_quiet_op;refine hK _ ?_;clear hK K))
 refine au (by rfl) (by rfl) (fun K hK=>?_)
 go_wp2_with fail
 refine(BB _ _ f5.1 (by omega)).mono ?_
 rintro e v4 ⟨s4,rfl,hb4,hd4⟩
 have fK:=hP3.add hb4 hd4.out
 clear hP3 hb4 hd4
 refine hK _ _ (ak fK.b) ?_
 clear hK K
 repeat (first|(refine ah (by rfl) ?_)|(refine ai (by rfl) (by rfl) (fun K hK=>?_);go_big_quiet_op;refine hK _ ?_;clear hK K))
 refine au (by rfl) (by rfl) (fun K hK=>?_)
 go_wp2_with fail
 refine(Bl _ _ f6.1 f6.2).mono ?_
 rintro e v5 ⟨s5,rfl,hb5,hd5⟩
 have fZ:=fK.add hb5 hd5.out
 clear fK hb5 hd5
 refine hK _ _ (ak fZ.b) ?_
 clear hK K
 repeat (first|(refine ah (by rfl) ?_)|(refine ai (by rfl) (by rfl) (fun K hK=>?_);go_big_quiet_op;refine hK _ ?_;clear hK K))
 refine au (by rfl) (by rfl) (fun K hK=>?_)
 go_wp2_with fail
 refine hK _ _ (ak (az fZ.b _)) ?_
 clear hK K
 repeat (first|(refine ah (by rfl) ?_)|(refine ai (by rfl) (by rfl) (fun K hK=>?_);go_big_quiet_op;refine hK _ ?_;clear hK K))
 refine au (by rfl) (by rfl) (fun K hK=>?_)
 go_wp2_with fail
 have hbn:=az fZ.b (.cells (fM [(s1,aA k.version.toNat),(s2,bW (k.keys.map dM)),(s3,jc k.bF),(s4,fC k.dm.toNat),(s5,bf k.created.toNat)]) 41)
 refine(QV v5.heap.size (w.alloc (.cells (aV s k) 49)).heap.size _ [(s1,aA k.version.toNat),(s2,bW (k.keys.map dM)),(s3,jc k.bF),(s4,fC k.dm.toNat),(s5,bf k.created.toNat)] _ (World.alloc_heap_new _ _) fZ.b.size (fun x hx=>BytesAt.later (az (Below.refl _ _) _) (fZ.at_ x hx)) (by simp) (by simp) (fun x hx=>HE.out x.2 (by have:=List.mem_map_of_mem (f:=Prod.snd) hx;exact this)) Ba.out).mono ?_
 rintro e vz ⟨sz,rfl,hbz,hdz⟩
 have pI:=hbn.trans hbz
 have HB:=Lib.hid (And.intro (af hB0 pI) (hdz.to (S1:=fresh w.heap.size vz) (fun _ _=>rfl) (fun j hj=>⟨Nat.le_trans (af hB0 hbn).size hj.1,hj.2⟩)))
 clear fZ hbz hdz hbn
 refine hK _ _ (ak pI) ?_
 clear hK K
 repeat (first|(refine ah (by rfl) ?_)|(refine ai (by rfl) (by rfl) (fun K hK=>?_);go_big_quiet_op;refine hK _ ?_;clear hK K))
 refine iH ?_
 go_wp2_with fail
 go_ret
 exact⟨sz,rfl,HB.out.1,HB.out.2⟩
theorem ad2(a:Option Addr)(cap:Nat)(l:List aW)(w:World)(h:kV w a l)(hok:∀p∈l,vY p)(h16:l.length≤16):Calls Tryz.prog 218 #[.slice a l.length cap,.func (.func 219) #[] #[]] w (aU w (bW (l.map iO))):=by
 rcases cu.addr h with h0|⟨b,o,rfl,hb⟩
 ·obtain rfl:l=[]:=List.eq_nil_of_length_eq_zero h0
  go_enter Tryz.func218,Tryz.ntmps218
  go_wp2_with fail
  go_ret
  exact nV (Below.refl _ _)
 by_cases h0:l.length=0
 ·obtain rfl:l=[]:=List.eq_nil_of_length_eq_zero h0
  go_enter Tryz.func218,Tryz.ntmps218
  go_wp2_with fail
  go_ret
  exact nV (Below.refl _ _)
 have hl0:((l.length:Int) == 0)=false:=beq_eq_false_iff_ne.2 (by omega)
 have HK:=Lib.hid hok
 have hfl:=map_le (f:=iO) (m:=1605) (n:=16) (l:=l) (fun p hp=>IU (hok p hp)) h16
 have HF:=Lib.hid (Nat.le_trans hfl (by decide:16*1605≤1000000))
 have HT:=Lib.hid (show bW (l.map iO)=dE (l.map iO) by unfold bW;rw[if_neg (by rw[List.length_map];exact h0)])
 have hpos:0<l.length:=by omega
 rw[HT.out]
 clear hok hfl h0
 go_enter Tryz.func218,Tryz.ntmps218
 go_wp2_with fail
 go_loopw [5,13] (fun bv iv wr=>∃(k:Nat) (so:Sl) (L:List (List UInt8)),k≤l.length∧iv=.int .i64 k∧bv=.slice so.a L.length so.cap∧fE 41 w wr so L∧Hid (L=(l.take k).map iO)) (fun _ iv _=>l.length-(intOf iv).toNat)
 case atStart=>exact⟨0,⟨none,0⟩,[],Nat.zero_le _,rfl,rfl,fE.none _ (Below.refl _ _),rfl⟩
 case round=>
  obtain⟨k,so,L,hk,rfl,rfl,hH,HL⟩:=hrel
  by_cases hlt:k<l.length
  ·obtain⟨t,hrow,hp⟩:=(h.later hH.b).at k hlt
   obtain⟨L',hL'⟩:∃L',L'=(l.take (k+1)).map iO:=⟨_,rfl⟩
   obtain⟨x,hx⟩:∃x,x=iO l[k]:=⟨_,rfl⟩
   have HA:=Lib.hid (show L'=L++[x] by rw[hL',hx,rE _ hlt HL.out])
   have hLn:L'.length≤1000000:=by rw[hL',List.length_map,List.length_take];omega
   have jC:=Lib.hid hL'
   have HX:=Lib.hid hx
   clear hL' hx
   go_wp2_with fail
   have hbn:Below wr.heap.size wr (wr.alloc (.cells (aV t l[k]) 49)):=az (Below.refl _ _) _
   refine(ad1 _ l[k] _ (ig.later hbn hp) (HK.out _ (List.getElem_mem hlt))).mono ?_
   rw[←HX.out]
   rintro e w2 ⟨s2,rfl,hb2,hd2⟩
   have hb2':=af hbn hb2
   have wJ:bg w2 (fresh wr.heap.size w2) (fun y=>BytesAt y s2.a x):=hd2.to (fun _ _=>rfl) (fun j hj=>⟨by have:=hj.1;simp at this;omega,hj.2⟩)
   clear hbn hb2 hd2
   go_wp2_with (at_builtin;refine lg (L:=L') rfl _ _ _ rfl jM hH hb2' wJ rfl rfl rfl rfl HA.out hLn ?_;intro s3 w3 hH3)
   go_roundw
   case rel=>exact⟨k+1,s3,L',by omega,by go_num,rfl,hH3,jC.out⟩
   case measure=>simp[intOf];omega
  ·have HE:=Lib.hid (show L=l.map iO by rw[HL.out,rF _ hlt])
   have hll:L.length=l.length:=by rw[HE.out,List.length_map]
   have hh:=(hH.hist (by unfold lim;omega)).out
   have hL0:0<L.length:=by omega
   rw[←HE.out]at HF ⊢
   clear hll
   go_wp2_with fail
   refine(rG _ _ L _ hh hL0 HF.out).mono ?_
   intro e w4 h4
   obtain⟨s4,rfl,hb4,hd4⟩:=aU.from h4 hH.b
   clear hH hh
   go_wp2_with fail
   go_ret
   rw[←HE.out]
   exact⟨s4,rfl,hb4,hd4⟩
theorem ad3(r:aC)(d:Entry)(w:World)(he:iT w r d)(hf:yl d):Calls Tryz.prog 184 #[.agg (ay r d)] w (aU w (jy d)):=by
 have hB0:Below w.heap.size w (w.alloc (.cells (ay r d) 32)):=az (Below.refl _ _) _
 have lX:=he.later hB0
 have HE:=Lib.hid (fun x hx=>Nat.le_trans (IW hf x hx) (by decide:26000≤1000000))
 have Ba:=Lib.hid (Nat.le_trans (IX hf) (by decide:416080≤1000000))
 have HT:=Lib.hid (show jy d=jT (mO d) from rfl)
 obtain⟨f1,f2,f3,f4,f5,f6,f7,f8,f9,f10,f11,f12,f13,f14,f15,f16⟩:=hf
 have F1:=Lib.hid f1;have F2:=Lib.hid f2;have F5:=Lib.hid f5;have RF:=Lib.hid f14;have RG:=Lib.hid f15;have RJ:=Lib.hid f16
 have F3:=Lib.hid f3;have F4:=Lib.hid f4;have F6:=Lib.hid f6;have F7:=Lib.hid f7;have F8:=Lib.hid f8;have F9:=Lib.hid f9;have F10:=Lib.hid f10;have F11:=Lib.hid f11;have RN:=Lib.hid f12;have RP:=Lib.hid f13
 clear f1 f2 f5 f14 f15 f16 f4 f6 f7 f8 f9 f10 f11 f12 f13
 rw[HT.out]
 go_enter Tryz.func184,Tryz.ntmps184
 go_wp2_with fail
 refine jr (Below.refl _ (w.alloc (.cells (ay r d) 32))) (by kernel_rfl) (by kernel_rfl) ?_
 intro v0 hv0
 have hP0:Ps (w.alloc (.cells (ay r d) 32)) v0 []:=⟨hv0,by simp⟩
 repeat (first|(refine ah (by rfl) ?_)|(refine ai (by rfl) (by rfl) (fun K hK=>?_);go_big_quiet_op;refine hK _ ?_;clear hK K))
 refine au (by rfl) (by rfl) (fun K hK=>?_)
 go_wp2_with fail
 refine(RD _ _ _ (lX.name.later hP0.b) F1.out).mono ?_
 rintro e v1 ⟨s1,rfl,hb1,hd1⟩
 have hP1:=hP0.add hb1 hd1.out
 clear hP0 hb1 hd1
 refine hK _ _ (ak hP1.b) ?_
 clear hK K
 repeat (first|(refine ah (by rfl) ?_)|(refine ai (by rfl) (by rfl) (fun K hK=>?_);go_big_quiet_op;refine hK _ ?_;clear hK K))
 refine au (by rfl) (by rfl) (fun K hK=>?_)
 go_wp2_with fail
 refine(JX _ _ _ _ (lX.aliases.later hP1.b) F2.out.1 F2.out.2).mono ?_
 rintro e v2 ⟨s2,rfl,hb2,hd2⟩
 have hP2:=hP1.add hb2 hd2.out
 clear hP1 hb2 hd2
 refine hK _ _ (ak hP2.b) ?_
 clear hK K
 repeat (first|(refine ah (by rfl) ?_)|(refine ai (by rfl) (by rfl) (fun K hK=>?_);go_big_quiet_op;refine hK _ ?_;clear hK K))
 refine au (by rfl) (by rfl) (fun K hK=>?_)
 go_wp2_with fail
 refine(acr _ _ F3.out.1 (by have:=F3.out.2;omega)).mono ?_
 rintro e v3 ⟨s3,rfl,hb3,hd3⟩
 have hP3:=hP2.add hb3 hd3.out
 clear hP2 hb3 hd3
 refine hK _ _ (ak hP3.b) ?_
 clear hK K
 repeat (first|(refine ah (by rfl) ?_)|(refine ai (by rfl) (by rfl) (fun K hK=>?_);go_big_quiet_op;refine hK _ ?_;clear hK K))
 refine au (by rfl) (by rfl) (fun K hK=>?_)
 go_wp2_with fail
 refine(BB _ _ F4.out.1 (by have:=F4.out;omega)).mono ?_
 rintro e v4 ⟨s4,rfl,hb4,hd4⟩
 have fK:=hP3.add hb4 hd4.out
 clear hP3 hb4 hd4
 refine hK _ _ (ak fK.b) ?_
 clear hK K
 repeat (first|(refine ah (by rfl) ?_)|(refine ai (by rfl) (by rfl) (fun K hK=>?_);go_big_quiet_op;refine hK _ ?_;clear hK K))
 refine au (by rfl) (by rfl) (fun K hK=>?_)
 go_wp2_with fail
 refine(ad2 _ _ _ _ (lX.keys.later fK.b) F5.out.1 F5.out.2).mono ?_
 rintro e v5 ⟨s5,rfl,hb5,hd5⟩
 have fZ:=fK.add hb5 hd5.out
 clear fK hb5 hd5
 refine hK _ _ (ak fZ.b) ?_
 clear hK K
 repeat (first|(refine ah (by rfl) ?_)|(refine ai (by rfl) (by rfl) (fun K hK=>?_);go_big_quiet_op;refine hK _ ?_;clear hK K))
 refine au (by rfl) (by rfl) (fun K hK=>?_)
 go_wp2_with fail
 refine(Ry _ _ (Nat.le_trans F6.out (by decide))).mono ?_
 rintro e v6 ⟨s6,rfl,hb6,hd6⟩
 have jW:=fZ.add hb6 hd6.out
 clear fZ hb6 hd6
 refine hK _ _ (ak jW.b) ?_
 clear hK K
 repeat (first|(refine ah (by rfl) ?_)|(refine ai (by rfl) (by rfl) (fun K hK=>?_);go_big_quiet_op;refine hK _ ?_;clear hK K))
 refine au (by rfl) (by rfl) (fun K hK=>?_)
 go_wp2_with fail
 refine(EN _ _ F7.out.1 F7.out.2).mono ?_
 rintro e v7 ⟨s7,rfl,hb7,hd7⟩
 have lV:=jW.add hb7 hd7.out
 clear jW hb7 hd7
 refine hK _ _ (ak lV.b) ?_
 clear hK K
 repeat (first|(refine ah (by rfl) ?_)|(refine ai (by rfl) (by rfl) (fun K hK=>?_);go_big_quiet_op;refine hK _ ?_;clear hK K))
 refine au (by rfl) (by rfl) (fun K hK=>?_)
 go_wp2_with fail
 refine(EN _ _ F8.out.1 F8.out.2).mono ?_
 rintro e v8 ⟨s8,rfl,hb8,hd8⟩
 have jX:=lV.add hb8 hd8.out
 clear lV hb8 hd8
 refine hK _ _ (ak jX.b) ?_
 clear hK K
 repeat (first|(refine ah (by rfl) ?_)|(refine ai (by rfl) (by rfl) (fun K hK=>?_);go_big_quiet_op;refine hK _ ?_;clear hK K))
 refine au (by rfl) (by rfl) (fun K hK=>?_)
 go_wp2_with fail
 refine(BB _ _ F9.out.1 (by have:=F9.out;omega)).mono ?_
 rintro e v9 ⟨s9,rfl,aZ,hd9⟩
 have uy:=jX.add aZ hd9.out
 clear jX aZ hd9
 refine hK _ _ (ak uy.b) ?_
 clear hK K
 repeat (first|(refine ah (by rfl) ?_)|(refine ai (by rfl) (by rfl) (fun K hK=>?_);go_big_quiet_op;refine hK _ ?_;clear hK K))
 refine au (by rfl) (by rfl) (fun K hK=>?_)
 go_wp2_with fail
 refine(BB _ _ F10.out.1 (by have:=F10.out;omega)).mono ?_
 rintro e v10 ⟨s10,rfl,A7,hd10⟩
 have wF:=uy.add A7 hd10.out
 clear uy A7 hd10
 refine hK _ _ (ak wF.b) ?_
 clear hK K
 repeat (first|(refine ah (by rfl) ?_)|(refine ai (by rfl) (by rfl) (fun K hK=>?_);go_big_quiet_op;refine hK _ ?_;clear hK K))
 refine au (by rfl) (by rfl) (fun K hK=>?_)
 go_wp2_with fail
 refine(BB _ _ F11.out.1 (by have:=F11.out;omega)).mono ?_
 rintro e v11 ⟨s11,rfl,uq,hd11⟩
 have pG:=wF.add uq hd11.out
 clear wF uq hd11
 refine hK _ _ (ak pG.b) ?_
 clear hK K
 repeat (first|(refine ah (by rfl) ?_)|(refine ai (by rfl) (by rfl) (fun K hK=>?_);go_big_quiet_op;refine hK _ ?_;clear hK K))
 refine au (by rfl) (by rfl) (fun K hK=>?_)
 go_wp2_with fail
 refine(EN _ _ RN.out.1 RN.out.2).mono ?_
 rintro e v12 ⟨s12,rfl,uu,uw⟩
 have lW:=pG.add uu uw.out
 clear pG uu uw
 refine hK _ _ (ak lW.b) ?_
 clear hK K
 repeat (first|(refine ah (by rfl) ?_)|(refine ai (by rfl) (by rfl) (fun K hK=>?_);go_big_quiet_op;refine hK _ ?_;clear hK K))
 refine au (by rfl) (by rfl) (fun K hK=>?_)
 go_wp2_with fail
 refine(EN _ _ RP.out.1 RP.out.2).mono ?_
 rintro e v13 ⟨s13,rfl,RQ,Bc⟩
 have EO:=lW.add RQ Bc.out
 clear lW RQ Bc
 refine hK _ _ (ak EO.b) ?_
 clear hK K
 repeat (first|(refine ah (by rfl) ?_)|(refine ai (by rfl) (by rfl) (fun K hK=>?_);go_big_quiet_op;refine hK _ ?_;clear hK K))
 refine au (by rfl) (by rfl) (fun K hK=>?_)
 go_wp2_with fail
 refine(JX _ _ _ _ (lX.targets.later EO.b) RF.out.1 RF.out.2).mono ?_
 rintro e v14 ⟨s14,rfl,Bd,Be⟩
 have uz:=EO.add Bd Be.out
 clear EO Bd Be
 refine hK _ _ (ak uz.b) ?_
 clear hK K
 repeat (first|(refine ah (by rfl) ?_)|(refine ai (by rfl) (by rfl) (fun K hK=>?_);go_big_quiet_op;refine hK _ ?_;clear hK K))
 refine au (by rfl) (by rfl) (fun K hK=>?_)
 go_wp2_with fail
 refine(JX _ _ _ _ (lX.aP.later uz.b) RG.out.1 RG.out.2).mono ?_
 rintro e v15 ⟨s15,rfl,Bf,Bg⟩
 have uA:=uz.add Bf Bg.out
 clear uz Bf Bg
 refine hK _ _ (ak uA.b) ?_
 clear hK K
 repeat (first|(refine ah (by rfl) ?_)|(refine ai (by rfl) (by rfl) (fun K hK=>?_);go_big_quiet_op;refine hK _ ?_;clear hK K))
 refine au (by rfl) (by rfl) (fun K hK=>?_)
 go_wp2_with fail
 refine(adZ _ _ _ _ (lX.history.later uA.b) RJ.out.1 RJ.out.2).mono ?_
 rintro e v16 ⟨s16,rfl,hb16,Bh⟩
 have qw:=uA.add hb16 Bh.out
 clear uA hb16 Bh
 refine hK _ _ (ak qw.b) ?_
 clear hK K
 repeat (first|(refine ah (by rfl) ?_)|(refine ai (by rfl) (by rfl) (fun K hK=>?_);go_big_quiet_op;refine hK _ ?_;clear hK K))
 refine au (by rfl) (by rfl) (fun K hK=>?_)
 go_wp2_with fail
 refine hK _ _ (ak (az qw.b _)) ?_
 clear hK K
 repeat (first|(refine ah (by rfl) ?_)|(refine ai (by rfl) (by rfl) (fun K hK=>?_);go_big_quiet_op;refine hK _ ?_;clear hK K))
 refine au (by rfl) (by rfl) (fun K hK=>?_)
 go_wp2_with fail
 have hbn:=az qw.b (.cells (fM [(s1,bP d.name),(s2,bW (d.aliases.map bP)),(s3,qg d.attrs.toNat),(s4,fC d.dF.toNat),(s5,bW (d.keys.map iO)),(s6,jc d.dn),(s7,iK d.fQ.toNat),(s8,iK d.fU.toNat),(s9,fC d.fF.toNat),(s10,fC d.fG.toNat),(s11,fC d.fails.toNat),(s12,iK d.eP.toNat),(s13,iK d.gq.toNat),(s14,bW (d.targets.map bP)),(s15,bW (d.aP.map bP)),(s16,bW (d.history.map dP))]) 41)
 refine(QV v16.heap.size (w.alloc (.cells (ay r d) 32)).heap.size _ [(s1,bP d.name),(s2,bW (d.aliases.map bP)),(s3,qg d.attrs.toNat),(s4,fC d.dF.toNat),(s5,bW (d.keys.map iO)),(s6,jc d.dn),(s7,iK d.fQ.toNat),(s8,iK d.fU.toNat),(s9,fC d.fF.toNat),(s10,fC d.fG.toNat),(s11,fC d.fails.toNat),(s12,iK d.eP.toNat),(s13,iK d.gq.toNat),(s14,bW (d.targets.map bP)),(s15,bW (d.aP.map bP)),(s16,bW (d.history.map dP))] _ (World.alloc_heap_new _ _) qw.b.size (fun x hx=>BytesAt.later (az (Below.refl _ _) _) (qw.at_ x hx)) (by simp) (by simp) (fun x hx=>HE.out x.2 (by have:=List.mem_map_of_mem (f:=Prod.snd) hx;exact this)) Ba.out).mono ?_
 rintro e vz ⟨sz,rfl,hbz,hdz⟩
 have pI:=hbn.trans hbz
 have HB:=Lib.hid (And.intro (af hB0 pI) (hdz.to (S1:=fresh w.heap.size vz) (fun _ _=>rfl) (fun j hj=>⟨Nat.le_trans (af hB0 hbn).size hj.1,hj.2⟩)))
 clear qw hbz hdz hbn
 refine hK _ _ (ak pI) ?_
 clear hK K
 repeat (first|(refine ah (by rfl) ?_)|(refine ai (by rfl) (by rfl) (fun K hK=>?_);go_big_quiet_op;refine hK _ ?_;clear hK K))
 refine iH ?_
 go_wp2_with fail
 go_ret
 exact⟨sz,rfl,HB.out.1,HB.out.2⟩
end Go.Proofs.YtibhckkjciflaaaGreatDoor
namespace Go.WW
open Go.RowKit
def dY(n:Nat):ByteArray:=⟨(Lib.decDigits n).toArray⟩
theorem BC{n:Nat}(h:n<10):dY n=⟨#[UInt8.ofNat (48+n)]⟩:=by unfold dY;rw[Lib.decDigits_one h]
theorem RS{n:Nat}(h:¬n<10):dY n=dY (n / 10)++dY (n % 10):=by
 rw[BC (show n % 10<10 by omega)]
 unfold dY
 rw[Lib.decDigits,dif_neg h]
 exact(ByteArray.mk_append_mk (Lib.decDigits (n / 10)) [UInt8.ofNat (48+n % 10)]).symm
theorem JY:∀(k n:Nat),0<k→n<10 ^ k→(dY n).size≤k
 |0,_,h,_=>absurd h (Nat.lt_irrefl 0)
 |1,n,_,h=>by rw[BC (by simpa using h)];exact Nat.le_refl _
 |k+2,n,_,h=>by
  by_cases h1:n<10
  ·rw[BC h1];exact Nat.le_add_left 1 (k+1)
  ·rw[RS h1,ByteArray.size_append]
   have h2:=JY (k+1) (n / 10) (by omega) (by rw[Nat.div_lt_iff_lt_mul (by decide),←Nat.pow_succ];exact h)
   have h3:(dY (n % 10)).size=1:=by rw[BC (by omega)];rfl
   omega
theorem RU{n:Nat}(h:n<4611686018427387904):(dY n).size≤19:=JY 19 n (by decide) (Nat.lt_trans h (by decide))
theorem ad4(m:Nat):(m:Int).tdiv 10=((m / 10:Nat):Int):=by
 rw[Int.tdiv_eq_ediv_of_nonneg (Int.natCast_nonneg _)];rfl
theorem ad5(m:Nat):(m:Int).tmod 10=((m % 10:Nat):Int):=by
 rw[Int.tmod_eq_emod_of_nonneg (Int.natCast_nonneg _)];rfl
end Go.WW
namespace Go.Proofs.YtibhckkjciflaaaGreatDoor
open Go.RowKit Go.WW
theorem ad6(n:Nat):∀(w:World),n<4611686018427387904→Calls Tryz.prog 116 #[.int .i64 n] w fun e w'=>e=.returned (.string (dY n))∧Below w.heap.size w w':=by
 induction n using Nat.strongRecOn with
 |_ n ih=>
  intro w hn
  by_cases h:n<10
  ·have hd:(n:Int)<10:=by omega
   obtain⟨c,hc⟩:∃c,c=UInt8.ofNat (48+n):=⟨_,rfl⟩
   have HD:=Lib.hid (show dY n=⟨#[c]⟩ by rw[BC h,hc])
   have hcell:(c.toNat:Int)=48+(n:Int):=by rw[hc];simp;omega
   have hB:=az (Below.refl _ w) (.cells #[.int .u8 (48+(n:Int))] 5)
   have hcv:=I8 (P:=Tryz.prog) (w.alloc (.cells #[.int .u8 (48+(n:Int))] 5)) 41 9 5 Tryz.underlying41 Tryz.underlying5 Tryz.underlying9 w.heap.size 0 1 [c] (fun i hi=>by
    obtain rfl:i=0:=by simp at hi;exact hi
    rw[cell_of_row _ _ _ _ _ _ (World.alloc_heap_new _ _)]
    simp only[List.getElem_cons_zero,hcell];rfl)
   have HB:=Lib.hid hB
   clear hcell hB hc
   rw[HD.out]
   go_enter Tryz.func116,Tryz.ntmps116
   go_wp2_with fail
   rw[show(convert 41 9 (.slice (some ⟨w.heap.size,0,none⟩) 1 1)).run Tryz.prog (w.alloc (.cells #[.int .u8 (48+(n:Int))] 5))=_ from hcv]
   go_wp2_with fail
   go_ret
   exact⟨rfl,HB.out⟩
  ·have hd:¬(n:Int)<10:=by omega
   have HD:=Lib.hid (RS h)
   have hq:=ad4 n
   have hr:=ad5 n
   have H1:=Lib.hid (ih (n / 10) (by omega))
   have H2:=Lib.hid (ih (n % 10) (by omega))
   have h1:n / 10<4611686018427387904:=by omega
   have s1:=RU h1
   have s2:=RU (show n % 10<4611686018427387904 by omega)
   rw[HD.out]
   clear ih
   go_enter Tryz.func116,Tryz.ntmps116
   go_wp2_with fail
   refine(H1.out _ h1).mono ?_
   rintro e w1 ⟨rfl,hb1⟩
   go_wp2_with fail
   refine(H2.out _ (by omega)).mono ?_
   rintro e w2 ⟨rfl,hb2⟩
   go_wp2_with fail
   go_ret
   exact⟨rfl,af hb1 hb2⟩
theorem rO(v:Int)(w:World)(h0:0≤v)(hv:v<4611686018427387904):Calls Tryz.prog 116 #[.int .i64 v] w fun e w'=>e=.returned (.string (dY v.toNat))∧Below w.heap.size w w':=by
 have:=ad6 v.toNat w (by omega)
 rwa[Int.toNat_of_nonneg h0]at this
end Go.Proofs.YtibhckkjciflaaaGreatDoor
