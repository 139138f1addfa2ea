/- A part of the proof. -/
import Derived.Test.YtpfifochimkpfaaGreatDoorA32
set_option maxRecDepth 100000
set_option maxHeartbeats 32000000
namespace Go.Proofs.YtpfifochimkpfaaGreatDoor
open Go.RowKit Go.WW
theorem amn(a a2 a3 a4:Option Addr)(cap cap2 cap3 cap4:Nat)(PL:List ah)(X0:List EE)(NS:List aH)(TL:List wL)(w:World)(hp:gQ w a PL)(hx:qj w a2 X0)(hn:fQ w a3 NS)(ht:wM w a4 TL)(hT:BJ Tryz.prog w) :
  Calls Tryz.prog 3 #[.slice a PL.length cap,.slice a2 X0.length cap2,.slice a3 NS.length cap3,.slice a4 TL.length cap4] w fun z w'=>z=.returned (.bool true)∧Below w.heap.size w w':=by
 have HP:=Lib.hid hp
 have HX:=Lib.hid hx
 have HNS:=Lib.hid hn
 have IC:=Lib.hid ht
 have HT:=Lib.hid hT
 have HF:=Lib.hid (ait a a2 cap cap2 PL X0 w hp hx)
 clear hp hx hn ht hT
 go_enter Tryz.func3,Tryz.ntmps3
 go_wp2_with fail
 refine HF.out.mono ?_
 rintro z w1 ⟨hb1,bl,rfl,hbl⟩
 cases bl
 ·dsimp only
  go_wp2_with fail
  refine(Bc w1).mono ?_
  rintro z w2 ⟨rfl,hb2⟩
  dsimp only
  go_wp2_with fail
  go_ret
  exact⟨rfl,ag hb1 hb2⟩
 obtain⟨hl4,Gu⟩:=hbl rfl
 dsimp only
 by_cases h12:12<NS.length
 ·have amq:(12:Int)<(NS.length:Int):=by omega
  go_wp2_with fail
  refine(Bc w1).mono ?_
  rintro z w2 ⟨rfl,hb2⟩
  dsimp only
  go_wp2_with fail
  go_ret
  exact⟨rfl,ag hb1 hb2⟩
 have amq:¬(12:Int)<(NS.length:Int):=by omega
 by_cases g12:12<TL.length
 ·have amr:(12:Int)<(TL.length:Int):=by omega
  go_wp2_with fail
  refine(Bc w1).mono ?_
  rintro z w2 ⟨rfl,hb2⟩
  dsimp only
  go_wp2_with fail
  go_ret
  exact⟨rfl,ag hb1 hb2⟩
 have amr:¬(12:Int)<(TL.length:Int):=by omega
 have HM:=Lib.hid (ajh (fun _=>False) a a2 cap cap2 PL X0 w1 (by simp) (HP.out.later hb1) (fun y hy=>by
  have hby:Below w1.heap.size w1 y:=hy.below (Nat.le_refl _) (fun _ hf=>hf.elim)
  exact⟨HX.out.rows.later (ag hb1 hby),fun x hx'=>(HX.out.each x hx').later (ag hb1 hby)⟩) hl4 Gu)
 clear HF
 go_wp2_with fail
 refine HM.out.mono ?_
 rintro z Wm ⟨b,n,e,p,es,ps,D,X,rfl,hbm,EF,Yy⟩
 dsimp only
 have qY:Below Wm.heap.size Wm (Wm.alloc (.cells (aA es ps D) 30)):=ay (Below.refl _ _) _
 have h10:=World.alloc_heap_new Wm (.cells (aA es ps D) 30)
 have hsW:(Wm.alloc (.cells (aA es ps D) 30)).heap.size=Wm.heap.size+1:=by simp
 have hR0:uN w Wm.heap.size b n e p (10+0) es ps D X (Wm.alloc (.cells (aA es ps D) 30)):=by
  obtain⟨NL,E,P,Jg,-⟩:=EF.ex
  have hlt:=Jg.lt
  have h1:=hb1.size
  have hn1:=EF.n1
  have hn2:=EF.n2
  refine⟨h10,?_,ag (ag hb1 hbm) qY,fun j hj=>⟨by have:=Yy j hj;omega,by have:=hlt j hj;omega⟩,by have:=hbm.size;omega,by omega,by omega⟩
  have hd:=EF.wide (S':=fun j=>aW b n e p j∨j=Wm.heap.size) qY (by rintro j (hj|rfl);exact .inl (.inl hj);exact .inr (Nat.le_refl _)) (fun k hk=>.inl hk) (by rintro j (hj|rfl);(have:=hlt j hj;omega);omega)
  exact⟨hd.ex,hd.ref,hd.aJ,hd.lt,hd.sort,hd.d0,by have:=hd.d1;omega,by omega,by omega⟩
 have hTl:Wm.heap.size<(Wm.alloc (.cells (aA es ps D) 30)).heap.size:=by omega
 clear HM EF Yy qY h10 hsW hbm hb1
 go_wp2_with fail
 generalize (Wm.alloc (.cells (aA es ps D) 30))=W0 at *
 generalize Wm.heap.size=T at *
 go_loopw [12,13,14,15,16,17,18] (fun iv _ _ _ _ _ _ wr=>∃(k:Nat) (es:Sl) (D:Db) (X:List EE),k≤TL.length∧iv=.int .i64 k∧Hid (uN w T b n e p (10+k) es ps D X wr)) (fun iv _ _ _ _ _ _ _=>TL.length-(intOf iv).toNat)
 case atStart=>exact⟨0,es,D,X,Nat.zero_le _,rfl,hR0⟩
 case round=>
  clear hR0 hTl
  obtain⟨k,es,D,X,hk,rfl,hR⟩:=hrel
  have over:∀(wz:World),Below wr.heap.size wr wz→Below w.heap.size w wz:=fun wz hz=>ag hR.out.out hz
  have hk12:k≤12:=by omega
  by_cases hlt:k<TL.length
  case neg=>
   have hki:¬(k:Int)<(TL.length:Int):=by omega
   go_wp2_with fail
   refine(Bc wr).mono ?_
   rintro z w2 ⟨rfl,hb2⟩
   dsimp only
   go_wp2_with fail
   go_ret
   exact⟨rfl,over _ hb2⟩
  have hki:(k:Int)<(TL.length:Int):=by omega
  by_cases hlt2:k<NS.length
  case neg=>
   have ams:¬(k:Int)<(NS.length:Int):=by omega
   go_wp2_with fail
   refine(Bc wr).mono ?_
   rintro z w2 ⟨rfl,hb2⟩
   dsimp only
   go_wp2_with fail
   go_ret
   exact⟨rfl,over _ hb2⟩
  have ams:(k:Int)<(NS.length:Int):=by omega
  obtain⟨bn,on,sq,Jh,hrn,Ha⟩:=HNS.out.get k hlt2
  obtain⟨bt,ot,hat,hbt⟩:∃bt ot,a4=some ⟨bt,ot,none⟩∧bt<w.heap.size:=by
   obtain⟨bt,ot,cs,h1,h2,-⟩:=IC.out.2 k hlt
   exact⟨bt,ot,h1,fA h2⟩
  have htc:=(hat▸IC.out:wM w (some ⟨bt,ot,none⟩) TL).cells k hlt
  obtain⟨-,ht1,ht2⟩:=htc
  generalize NS[k]=q at *
  generalize TL[k].success=sc at *
  generalize TL[k].time=now at *
  have hbn:bn<w.heap.size:=fA hrn
  have o8:=hR.out.out.size
  have amu:row? wr bn (on+k*2) 2=some (az sq q):=(fG (hR.out.out.block _ hbn) _ _).trans hrn
  have aoF:bn<wr.heap.size:=by omega
  have aoG:bt<wr.heap.size:=by omega
  have amv:wr.cell? ⟨bt,ot+k*3+2,none⟩=some (.int .i64 now):=(hR.out.out.cell hbt).trans ht2
  have HQ:=Lib.hid Ha
  clear Ha
  go_wp2_with fail
  apply Ba (M:=fun(bx:Nat) V=>Below wr.heap.size wr V∧V.heap[bx]?=some (.cells (az sq q) 35)∧wr.heap.size≤bx)
  case h1=>
   refine nz (Below.refl _ wr) (by kernel_rfl) (by kernel_rfl) ?_
   intro v1 hv1
   repeat (first|(refine ai (by rfl) ?_)|(refine au (by rfl) (by rfl) (fun K hK=>?_);go_big_quiet_op;refine hK _ ?_;clear hK K))
   refine aB (by rfl) (by rfl) (fun K hK=>?_)
   go_wp2_with fail
   refine hK _ _ (aj (ay hv1 _)) ?_
   clear hK K
   repeat (first|(refine ai (by rfl) ?_)|(refine au (by rfl) (by rfl) (fun K hK=>?_);go_big_quiet_op;refine hK _ ?_;clear hK K))
   refine aB (by rfl) (by rfl) (fun K hK=>?_)
   go_wp2_with fail
   refine hK _ _ (aj (ay hv1 (.cells (az sq q) 35))) ?_
   clear hK K
   repeat (first|(refine ai (by rfl) ?_)|(refine au (by rfl) (by rfl) (fun K hK=>?_);go_big_quiet_op;refine hK _ ?_;clear hK K))
   refine bz ?_
   have eQ:=ay hv1 (.cells (az sq q) 35)
   have hbx:=World.alloc_heap_new v1 (.cells (az sq q) 35)
   have jw:wr.heap.size≤v1.heap.size:=hv1.size
   clear hv1
   generalize (v1.alloc (.cells (az sq q) 35))=V5 at *
   generalize v1.heap.size=bx at *
   exact⟨by first|rfl|trivial,bx,rfl,⟨eQ,hbx,jw⟩⟩
  rintro bx V ⟨bV,hbx,hge⟩
  clear amv amu
  have Yz:=Lib.hid (HQ.out.later (over _ bV))
  obtain⟨xc,xf,xr,xl⟩:=ax hbx
  go_wp2_with fail
  refine(MX (O1 sq) (O3 q) V (alC Yz.out)).mono ?_
  rintro z V1 ⟨bl,rfl,hb1⟩
  have uA:=ag bV hb1
  cases bl
  case true=>
   dsimp only
   go_wp2_with fail
   refine(Bc V1).mono ?_
   rintro z w2 ⟨rfl,hb2⟩
   dsimp only
   go_wp2_with fail
   go_ret
   exact⟨rfl,over _ (ag uA hb2)⟩
  have DU:=aI hb1 hbx
  clear xc xf xr xl hbx
  obtain⟨xc,xf,xr,xl⟩:=ax DU
  have hr1:=hR.out.later uA
  have HR1:=Lib.hid hr1
  obtain⟨NL,E,P,Jg,hrel⟩:=hr1.kE.ex
  obtain⟨no,D',X',hst⟩:=alE D hrel.eq q sc now
  have YA:V1.cell? ⟨bt,ot+k*3+1,none⟩=some (.bool sc):=((over _ uA).cell hbt).trans ht1
  have amw:bt<V1.heap.size:=by have:=uA.size;omega
  have m1:¬aW b n e p bt:=fun hj=>by have:=(hr1.fr _ hj).1;omega
  have m2:¬aW b n e p bx:=fun hj=>by
   obtain⟨NL0,E0,P0,amx,-⟩:=hR.out.kE.ex
   have:=amx.lt _ hj;omega
  have mT:¬aW b n e p T:=fun hj=>(hr1.fr _ hj).2 rfl
  have HPG:=Lib.hid Jg
  have mf:=Lib.hid hrel
  have HST:=Lib.hid hst
  have HQ1:=Lib.hid (HQ.out.later (over _ uA))
  have hd0:=hr1.kE.d0
  have hd1:=hr1.kE.d1
  clear Jg hrel hst Yz hr1
  dsimp only
  go_wp2_with fail
  apply Vu (M:=fun V2=>But (aW b n e p) V1 V2∧∃iL E' P',jW (fun j=>aW b n e p j∨j=T) b n e p dF D'.aN iL E' P' V2∧fO D' X' iL E' P')
  case h1=>
   refine oV (aW b n e p) (But.refl _ V1) (by kernel_rfl) (by kernel_rfl) ?_
   repeat (first|(refine ai (by rfl) ?_)|(refine bC (by rfl) (by rfl) (fun K hK=>?_);go_big_quiet_op;refine hK _ ?_;clear hK K))
   refine bZ (by rfl) (by rfl) (fun K hK=>?_)
   go_wp2_with fail
   refine(ajc _ b n e p dF D.aN NL E P D D' X X' no V1.drew sq q sc now (HPG.out.later (Below.refl _ V1).drew) Bi mf.out HST.out (HQ1.out.later (Below.refl _ V1).drew) hd0 (by omega)).mono ?_
   rintro z V2 ⟨rfl,hbu,iL,E',P',hP',hR'⟩
   have YB:But (aW b n e p) V1 V2:=(But.refl _ V1).drew.trans hbu
   rw[show D.aN+(D'.aN-D.aN)=D'.aN by omega]at hP'
   dsimp only
   refine hK _ _ (fU YB) ?_
   clear hK K
   repeat (first|(refine ai (by rfl) ?_)|(refine bC (by rfl) (by rfl) (fun K hK=>?_);go_big_quiet_op;refine hK _ ?_;clear hK K))
   refine bz ?_
   exact⟨by first|rfl|trivial,rfl,⟨YB,iL,E',P',hP',hR'⟩⟩
  rintro V2 ⟨hbu,iL,E',P',hP',hR'⟩
  have hs2:=hbu.size
  have hbx2:V2.heap[bx]?=some (.cells (az sq q) 35):=(hbu.block _ xl m2).trans DU
  have EG:V2.heap[T]?=some (.cells (aA es ps D) 30):=(hbu.block _ HR1.out.lt mT).trans HR1.out.box
  have hF2:gG (fun j=>aW b n e p j∨j=T) es ps D X V2:=HR1.out.kE.ref.on (hbu.mono fun j hj=>.inl hj)
  have HF2:=Lib.hid hF2
  have YC:V2.cell? ⟨bt,ot+k*3+1,none⟩=some (.bool sc):=(hbu.cell amw m1).trans YA
  have hbW2:Below w.heap.size w V2:=((But.of_below (S:=fun j=>w.heap.size≤j) (over _ uA)).trans (hbu.mono fun j hj=>(HR1.out.fr j hj).1)).below (Nat.le_refl _) fun j hj=>hj
  have DT:=Lib.hid (HQ.out.later hbW2)
  have HP2:=Lib.hid hP'
  have HR2:=Lib.hid hR'
  have amA:bt<V2.heap.size:=by omega
  clear xc xf xr xl DU YA hP' hR' hF2
  obtain⟨xc,xf,xr,xl⟩:=ax hbx2
  obtain⟨tc,tf,tr,tl⟩:=ax EG
  go_wp2_with fail
  refine(Fe es ps D sq q V2 (by rw[mf.out.eq];exact HF2.out.dS.out.dS) DT.out).mono ?_
  rintro z V3 ⟨rfl,hb3⟩
  have EH:=aI hb3 hbx2
  have Ji:=aI hb3 EG
  have Jj:V3.cell? ⟨bt,ot+k*3+1,none⟩=some (.bool sc):=(hb3.cell amA).trans YC
  have EI:=Lib.hid (DT.out.later hb3)
  have HF3:=Lib.hid (HF2.out.later hb3)
  have hs3:=hb3.size
  clear xc xf xr xl tc tf tr tl YC
  obtain⟨xc,xf,xr,xl⟩:=ax EH
  have hst:=HST.out
  clear HST
  cases hst
  case bad hv=>
   dsimp only
   go_wp2_with fail
   refine(sZ _ _ _ EI.out).mono ?_
   rintro z V4 ⟨rfl,hb4⟩
   have mY:=ag hb3 hb4
   cases hok:aZ q
   ·have amB:=mY.size
    have ja:=Lib.hid (HR1.out.next (Below.refl _ _) hbu HP2.out HR2.out (But.of_below mY) (aI mY EG) (HF2.out.later mY) rfl (Int.le_refl _) (by omega) (Nat.le_refl _) rfl)
    go_wp2_with fail
    generalize YD:V4=U at *
    obtain⟨uc,uf,ur,ul⟩:=ax ja.out.box
    obtain⟨S1,hS1⟩:∃S1,S1=ByteArray.mk (jX D).toArray:=⟨_,rfl⟩
    have pO:=Lib.hid hS1
    clear hS1
    have hbq:(S1.toList == S1.toList)=true:=by simp
    refine Jc (since U) looks (qF 148) 6 8 5 [0,1,2,3,4,8,5,6] [7,9,10,11,12] (by kernel_rfl) (by kernel_rfl) (by kernel_rfl) (by decide) (by rfl) (by rfl) ⟨⟨World.drew U,(Below.refl _ U).drew⟩,rfl⟩ ?_
    have hz0:Below U.heap.size U U.drew:=(Below.refl _ U).drew
    generalize U.drew=v0 at hz0 ⊢
    simp only[pick,List.getElem?_cons_zero,List.getElem?_cons_succ]
    repeat (first|(refine ai (by rfl) ?_)|(refine au (by rfl) (by rfl) (fun K hK=>?_);go_big_quiet_op;refine hK _ ?_;clear hK K))
    refine aB (by rfl) (by rfl) (fun K hK=>?_)
    go_wp2_with fail
    refine(iy _ _).mono ?_
    rintro z v' ⟨rfl,rfl⟩
    dsimp only
    refine hK _ _ (aj hz0) ?_
    clear hK K
    repeat (first|(refine ai (by rfl) ?_)|(refine au (by rfl) (by rfl) (fun K hK=>?_);go_big_quiet_op;refine hK _ ?_;clear hK K))
    refine aB (by rfl) (by rfl) (fun K hK=>?_)
    go_wp2_with fail
    refine(Jd (ja.out.later hz0).kE (by omega) ja.out.x10 ja.out.p10 (nX HT.out (ag ja.out.out hz0))).mono ?_
    rintro z v2 ⟨za,rfl,hv2,hd2⟩
    have aU:=ag hz0 hv2
    dsimp only
    refine hK _ _ (aj aU) ?_
    clear hK K
    refine bz ?_
    refine⟨since v2,fun v hv=>?_,⟨⟨v2,Below.refl _ _⟩,rfl⟩,?_⟩
    ·obtain⟨x,rfl⟩:=hv
     exact⟨⟨x.w,ag aU x.b⟩,rfl⟩
    have HD2:=Lib.hid hd2.out
    have sH:=Lib.hid (ja.out.later aU)
    have k1:∀v:Later v2,(convert 58 9 (.slice za.a (jX D).length za.cap)).run Tryz.prog v.w=.ok (.string S1) v.w:=fun v=>pO.out▸wJ za.a za.cap (jX D) _ (HD2.out.later v.b)
    clear uc uf ur ul hd2 hv2 aU hz0
    repeat (first|(refine ai (by rfl) ?_)|(refine qG (by rfl) (by rfl) (fun K hK=>?_);go_big_quiet_op;refine hK _ ?_;clear hK K))
    refine xY (by rfl) (by rfl) (fun K hK=>?_)
    go_wp2_with fail
    refine(Je sH.out.kE (by omega)).mono ?_
    rintro z v3 ⟨zb,rfl,hv3,hd3⟩
    have k2:=wJ zb.a zb.cap (jX D) v3 hd3.out
    rw[←pO.out]at k2
    dsimp only
    refine hK _ _ (aj hv3) ?_
    clear hK K
    repeat (first|(refine ai (by rfl) ?_)|(refine qG (by rfl) (by rfl) (fun K hK=>?_);go_big_quiet_op;refine hK _ ?_;clear hK K))
    refine xY (by rfl) (by rfl) (fun K hK=>?_)
    go_wp2_with fail
    refine hK _ _ (aj hv3) ?_
    clear hK K
    repeat (first|(refine ai (by rfl) ?_)|(refine qG (by rfl) (by rfl) (fun K hK=>?_);go_big_quiet_op;refine hK _ ?_;clear hK K))
    refine bz ?_
    have Ae:=Lib.hid (sH.out.later hv3)
    clear k1 k2 hd3 hv3
    go_wp2_with fail
    go_roundw
    case rel=>
     try rw[←Jh]
     try rw[←hat]
     (repeat apply Exists.intro)
     exact⟨⟨k+1,es,D,X,by omega,by go_num,Ae.out⟩,rfl⟩
    case measure=>simp[intOf];omega
   ·have xZ:jc now=false:=by rw[hok]at hv;simpa using hv
    dsimp only
    go_wp2_with fail
    refine(EZ _ _).mono ?_
    rintro z v' ⟨rfl,rfl⟩
    rw[xZ]
    dsimp only
    have amB:=mY.size
    have ja:=Lib.hid (HR1.out.next (Below.refl _ _) hbu HP2.out HR2.out (But.of_below mY) (aI mY EG) (HF2.out.later mY) rfl (Int.le_refl _) (by omega) (Nat.le_refl _) rfl)
    go_wp2_with fail
    generalize YD:V4=U at *
    obtain⟨uc,uf,ur,ul⟩:=ax ja.out.box
    obtain⟨S1,hS1⟩:∃S1,S1=ByteArray.mk (jX D).toArray:=⟨_,rfl⟩
    have pO:=Lib.hid hS1
    clear hS1
    have hbq:(S1.toList == S1.toList)=true:=by simp
    refine Jc (since U) looks (qF 148) 6 8 5 [0,1,2,3,4,8,5,6] [7,9,10,11,12] (by kernel_rfl) (by kernel_rfl) (by kernel_rfl) (by decide) (by rfl) (by rfl) ⟨⟨World.drew U,(Below.refl _ U).drew⟩,rfl⟩ ?_
    have hz0:Below U.heap.size U U.drew:=(Below.refl _ U).drew
    generalize U.drew=v0 at hz0 ⊢
    simp only[pick,List.getElem?_cons_zero,List.getElem?_cons_succ]
    repeat (first|(refine ai (by rfl) ?_)|(refine au (by rfl) (by rfl) (fun K hK=>?_);go_big_quiet_op;refine hK _ ?_;clear hK K))
    refine aB (by rfl) (by rfl) (fun K hK=>?_)
    go_wp2_with fail
    refine(iy _ _).mono ?_
    rintro z v' ⟨rfl,rfl⟩
    dsimp only
    refine hK _ _ (aj hz0) ?_
    clear hK K
    repeat (first|(refine ai (by rfl) ?_)|(refine au (by rfl) (by rfl) (fun K hK=>?_);go_big_quiet_op;refine hK _ ?_;clear hK K))
    refine aB (by rfl) (by rfl) (fun K hK=>?_)
    go_wp2_with fail
    refine(Jd (ja.out.later hz0).kE (by omega) ja.out.x10 ja.out.p10 (nX HT.out (ag ja.out.out hz0))).mono ?_
    rintro z v2 ⟨za,rfl,hv2,hd2⟩
    have aU:=ag hz0 hv2
    dsimp only
    refine hK _ _ (aj aU) ?_
    clear hK K
    refine bz ?_
    refine⟨since v2,fun v hv=>?_,⟨⟨v2,Below.refl _ _⟩,rfl⟩,?_⟩
    ·obtain⟨x,rfl⟩:=hv
     exact⟨⟨x.w,ag aU x.b⟩,rfl⟩
    have HD2:=Lib.hid hd2.out
    have sH:=Lib.hid (ja.out.later aU)
    have k1:∀v:Later v2,(convert 58 9 (.slice za.a (jX D).length za.cap)).run Tryz.prog v.w=.ok (.string S1) v.w:=fun v=>pO.out▸wJ za.a za.cap (jX D) _ (HD2.out.later v.b)
    clear uc uf ur ul hd2 hv2 aU hz0
    repeat (first|(refine ai (by rfl) ?_)|(refine qG (by rfl) (by rfl) (fun K hK=>?_);go_big_quiet_op;refine hK _ ?_;clear hK K))
    refine xY (by rfl) (by rfl) (fun K hK=>?_)
    go_wp2_with fail
    refine(Je sH.out.kE (by omega)).mono ?_
    rintro z v3 ⟨zb,rfl,hv3,hd3⟩
    have k2:=wJ zb.a zb.cap (jX D) v3 hd3.out
    rw[←pO.out]at k2
    dsimp only
    refine hK _ _ (aj hv3) ?_
    clear hK K
    repeat (first|(refine ai (by rfl) ?_)|(refine qG (by rfl) (by rfl) (fun K hK=>?_);go_big_quiet_op;refine hK _ ?_;clear hK K))
    refine xY (by rfl) (by rfl) (fun K hK=>?_)
    go_wp2_with fail
    refine hK _ _ (aj hv3) ?_
    clear hK K
    repeat (first|(refine ai (by rfl) ?_)|(refine qG (by rfl) (by rfl) (fun K hK=>?_);go_big_quiet_op;refine hK _ ?_;clear hK K))
    refine bz ?_
    have Ae:=Lib.hid (sH.out.later hv3)
    clear k1 k2 hd3 hv3
    go_wp2_with fail
    go_roundw
    case rel=>
     try rw[←Jh]
     try rw[←hat]
     (repeat apply Exists.intro)
     exact⟨⟨k+1,es,D,X,by omega,by go_num,Ae.out⟩,rfl⟩
    case measure=>simp[intOf];omega
  case none hv hnb=>
   obtain⟨hok,xZ⟩:aZ q=true∧jc now=true:=by simpa using hv
   rw[alF mf.out.eq hnb]
   dsimp only
   go_wp2_with fail
   refine(sZ _ _ _ EI.out).mono ?_
   rintro z V4 ⟨rfl,hb4⟩
   have mY:=ag hb3 hb4
   rw[hok]
   dsimp only
   go_wp2_with fail
   refine(EZ _ _).mono ?_
   rintro z v' ⟨rfl,rfl⟩
   rw[xZ]
   dsimp only
   have amB:=mY.size
   have ja:=Lib.hid (HR1.out.next (Below.refl _ _) hbu HP2.out HR2.out (But.of_below mY) (aI mY EG) (HF2.out.later mY) rfl (Int.le_refl _) (by omega) (Nat.le_refl _) rfl)
   go_wp2_with fail
   generalize YD:V4=U at *
   obtain⟨uc,uf,ur,ul⟩:=ax ja.out.box
   obtain⟨S1,hS1⟩:∃S1,S1=ByteArray.mk (jX D).toArray:=⟨_,rfl⟩
   have pO:=Lib.hid hS1
   clear hS1
   have hbq:(S1.toList == S1.toList)=true:=by simp
   refine Jc (since U) looks (qF 148) 6 8 5 [0,1,2,3,4,8,5,6] [7,9,10,11,12] (by kernel_rfl) (by kernel_rfl) (by kernel_rfl) (by decide) (by rfl) (by rfl) ⟨⟨World.drew U,(Below.refl _ U).drew⟩,rfl⟩ ?_
   have hz0:Below U.heap.size U U.drew:=(Below.refl _ U).drew
   generalize U.drew=v0 at hz0 ⊢
   simp only[pick,List.getElem?_cons_zero,List.getElem?_cons_succ]
   repeat (first|(refine ai (by rfl) ?_)|(refine au (by rfl) (by rfl) (fun K hK=>?_);go_big_quiet_op;refine hK _ ?_;clear hK K))
   refine aB (by rfl) (by rfl) (fun K hK=>?_)
   go_wp2_with fail
   refine(iy _ _).mono ?_
   rintro z v' ⟨rfl,rfl⟩
   dsimp only
   refine hK _ _ (aj hz0) ?_
   clear hK K
   repeat (first|(refine ai (by rfl) ?_)|(refine au (by rfl) (by rfl) (fun K hK=>?_);go_big_quiet_op;refine hK _ ?_;clear hK K))
   refine aB (by rfl) (by rfl) (fun K hK=>?_)
   go_wp2_with fail
   refine(Jd (ja.out.later hz0).kE (by omega) ja.out.x10 ja.out.p10 (nX HT.out (ag ja.out.out hz0))).mono ?_
   rintro z v2 ⟨za,rfl,hv2,hd2⟩
   have aU:=ag hz0 hv2
   dsimp only
   refine hK _ _ (aj aU) ?_
   clear hK K
   refine bz ?_
   refine⟨since v2,fun v hv=>?_,⟨⟨v2,Below.refl _ _⟩,rfl⟩,?_⟩
   ·obtain⟨x,rfl⟩:=hv
    exact⟨⟨x.w,ag aU x.b⟩,rfl⟩
   have HD2:=Lib.hid hd2.out
   have sH:=Lib.hid (ja.out.later aU)
   have k1:∀v:Later v2,(convert 58 9 (.slice za.a (jX D).length za.cap)).run Tryz.prog v.w=.ok (.string S1) v.w:=fun v=>pO.out▸wJ za.a za.cap (jX D) _ (HD2.out.later v.b)
   clear uc uf ur ul hd2 hv2 aU hz0
   repeat (first|(refine ai (by rfl) ?_)|(refine qG (by rfl) (by rfl) (fun K hK=>?_);go_big_quiet_op;refine hK _ ?_;clear hK K))
   refine xY (by rfl) (by rfl) (fun K hK=>?_)
   go_wp2_with fail
   refine(Je sH.out.kE (by omega)).mono ?_
   rintro z v3 ⟨zb,rfl,hv3,hd3⟩
   have k2:=wJ zb.a zb.cap (jX D) v3 hd3.out
   rw[←pO.out]at k2
   dsimp only
   refine hK _ _ (aj hv3) ?_
   clear hK K
   repeat (first|(refine ai (by rfl) ?_)|(refine qG (by rfl) (by rfl) (fun K hK=>?_);go_big_quiet_op;refine hK _ ?_;clear hK K))
   refine xY (by rfl) (by rfl) (fun K hK=>?_)
   go_wp2_with fail
   refine hK _ _ (aj hv3) ?_
   clear hK K
   repeat (first|(refine ai (by rfl) ?_)|(refine qG (by rfl) (by rfl) (fun K hK=>?_);go_big_quiet_op;refine hK _ ?_;clear hK K))
   refine bz ?_
   have Ae:=Lib.hid (sH.out.later hv3)
   clear k1 k2 hd3 hv3
   go_wp2_with fail
   go_roundw
   case rel=>
    try rw[←Jh]
    try rw[←hat]
    (repeat apply Exists.intro)
    exact⟨⟨k+1,es,D,X,by omega,by go_num,Ae.out⟩,rfl⟩
   case measure=>simp[intOf];omega
  case locked hv i hi hnm hl=>
   obtain⟨hok,xZ⟩:aZ q=true∧jc now=true:=by simpa using hv
   rw[Yi mf.out.eq mf.out.rE hi hnm]
   have hi0:¬(i:Int)<0:=by omega
   have BN:bI X[i].2=true:=mf.out.rE.ok _ (List.mem_map.2 ⟨_,List.getElem_mem hi,rfl⟩)
   have hsm:Small X[i].2 (eu D.aF X[i].2):=VU BN (mf.out.has _ (List.getElem_mem hi)) mf.out.dJ.ok
   have amC:(i:Int)<(D.entries.length:Int):=by rw[mf.out.eq,List.length_map];omega
   dsimp only
   go_wp2_with fail
   refine(sZ _ _ _ EI.out).mono ?_
   rintro z V4 ⟨rfl,hb4⟩
   have mY:=ag hb3 hb4
   rw[hok]
   dsimp only
   go_wp2_with fail
   refine(EZ _ _).mono ?_
   rintro z v' ⟨rfl,rfl⟩
   rw[xZ]
   have BO:=Lib.hid (HF3.out.later hb4)
   have Af:=aI hb4 Ji
   have O9:=aI hb4 EH
   have Pg:bt<V3.heap.size:=by omega
   have Ph:V4.cell? ⟨bt,ot+k*3+1,none⟩=some (.bool sc):=(hb4.cell Pg).trans Jj
   have YE:bt<V4.heap.size:=by have:=hb4.size;omega
   obtain⟨bE,oE,cs,Jk,Ag,x0,hx0,rfl⟩:=BO.out.dS.out.rows.2 i hi
   obtain rfl:X[i]=x0:=by rw[List.getElem?_eq_getElem hi]at hx0;exact Option.some.inj hx0
   have Pj:row? V4 bE (oE+i*17) 17=some (ae X[i].1 X[i].2):=Ag
   have Pm:bE<V4.heap.size:=fA Ag
   have vU:=Lib.hid hsm
   skip
   generalize X[i].1=r at *
   generalize X[i].2=d at *
   clear xc xf xr xl Ag hx0 hsm hnm BN Jj Ji EH
   obtain⟨tc,tf,tr,tl⟩:=ax Af
   have EJ:V4.cell? ⟨T,2,none⟩=some (.slice (some ⟨bE,oE,none⟩) D.entries.length es.cap):=by rw[tc 2,Fb,Jk]
   have EK:row? V4 T 0 4=some (aA es ps D):=by rw[dI Af];exact gI (fC _ _ _)
   clear tc tf tr
   dsimp only
   go_wp2_with fail
   refine sU (Below.refl _ V4) (by kernel_rfl) (by kernel_rfl) ?_
   intro v1 hv1
   repeat (first|(refine ai (by rfl) ?_)|(refine bC (by rfl) (by rfl) (fun K hK=>?_);go_big_quiet_op;refine hK _ ?_;clear hK K))
   refine bZ (by rfl) (by rfl) (fun K hK=>?_)
   go_wp2_with fail
   refine(Ih es ps D r d v1 (BO.out.dJ.out.later hv1)).mono ?_
   rintro z v2 ⟨rfl,hv2⟩
   have aU:=ag hv1 hv2
   dsimp only
   refine hK _ _ (aj aU) ?_
   clear hK K
   repeat (first|(refine ai (by rfl) ?_)|(refine bC (by rfl) (by rfl) (fun K hK=>?_);go_big_quiet_op;refine hK _ ?_;clear hK K))
   refine bZ (by rfl) (by rfl) (fun K hK=>?_)
   go_wp2_with fail
   refine(Q7 r d (eu D.aF d) now v2 vU.out).mono ?_
   rintro z V5 ⟨rfl,hv3⟩
   have hb5:=ag aU hv3
   dsimp only
   refine hK _ _ (aj hb5) ?_
   clear hK K
   repeat (first|(refine ai (by rfl) ?_)|(refine bC (by rfl) (by rfl) (fun K hK=>?_);go_big_quiet_op;refine hK _ ?_;clear hK K))
   refine bz ?_
   rw[hl]
   clear hv1 hv2 aU hv3 EJ EK
   have wu:=ag mY hb5
   have ja:=Lib.hid (HR1.out.next (Below.refl _ _) hbu HP2.out HR2.out (But.of_below wu) (aI wu EG) (HF2.out.later wu) rfl (Int.le_refl _) (by omega) (Nat.le_refl _) rfl)
   go_wp2_with fail
   generalize YD:V5=U at *
   obtain⟨uc,uf,ur,ul⟩:=ax ja.out.box
   obtain⟨S1,hS1⟩:∃S1,S1=ByteArray.mk (jX D).toArray:=⟨_,rfl⟩
   have pO:=Lib.hid hS1
   clear hS1
   have hbq:(S1.toList == S1.toList)=true:=by simp
   refine Jc (since U) looks (qF 148) 6 8 5 [0,1,2,3,4,8,5,6] [7,9,10,11,12] (by kernel_rfl) (by kernel_rfl) (by kernel_rfl) (by decide) (by rfl) (by rfl) ⟨⟨World.drew U,(Below.refl _ U).drew⟩,rfl⟩ ?_
   have hz0:Below U.heap.size U U.drew:=(Below.refl _ U).drew
   generalize U.drew=v0 at hz0 ⊢
   simp only[pick,List.getElem?_cons_zero,List.getElem?_cons_succ]
   repeat (first|(refine ai (by rfl) ?_)|(refine au (by rfl) (by rfl) (fun K hK=>?_);go_big_quiet_op;refine hK _ ?_;clear hK K))
   refine aB (by rfl) (by rfl) (fun K hK=>?_)
   go_wp2_with fail
   refine(iy _ _).mono ?_
   rintro z v' ⟨rfl,rfl⟩
   dsimp only
   refine hK _ _ (aj hz0) ?_
   clear hK K
   repeat (first|(refine ai (by rfl) ?_)|(refine au (by rfl) (by rfl) (fun K hK=>?_);go_big_quiet_op;refine hK _ ?_;clear hK K))
   refine aB (by rfl) (by rfl) (fun K hK=>?_)
   go_wp2_with fail
   refine(Jd (ja.out.later hz0).kE (by omega) ja.out.x10 ja.out.p10 (nX HT.out (ag ja.out.out hz0))).mono ?_
   rintro z v2 ⟨za,rfl,hv2,hd2⟩
   have aU:=ag hz0 hv2
   dsimp only
   refine hK _ _ (aj aU) ?_
   clear hK K
   refine bz ?_
   refine⟨since v2,fun v hv=>?_,⟨⟨v2,Below.refl _ _⟩,rfl⟩,?_⟩
   ·obtain⟨x,rfl⟩:=hv
    exact⟨⟨x.w,ag aU x.b⟩,rfl⟩
   have HD2:=Lib.hid hd2.out
   have sH:=Lib.hid (ja.out.later aU)
   have k1:∀v:Later v2,(convert 58 9 (.slice za.a (jX D).length za.cap)).run Tryz.prog v.w=.ok (.string S1) v.w:=fun v=>pO.out▸wJ za.a za.cap (jX D) _ (HD2.out.later v.b)
   clear uc uf ur ul hd2 hv2 aU hz0
   repeat (first|(refine ai (by rfl) ?_)|(refine qG (by rfl) (by rfl) (fun K hK=>?_);go_big_quiet_op;refine hK _ ?_;clear hK K))
   refine xY (by rfl) (by rfl) (fun K hK=>?_)
   go_wp2_with fail
   refine(Je sH.out.kE (by omega)).mono ?_
   rintro z v3 ⟨zb,rfl,hv3,hd3⟩
   have k2:=wJ zb.a zb.cap (jX D) v3 hd3.out
   rw[←pO.out]at k2
   dsimp only
   refine hK _ _ (aj hv3) ?_
   clear hK K
   repeat (first|(refine ai (by rfl) ?_)|(refine qG (by rfl) (by rfl) (fun K hK=>?_);go_big_quiet_op;refine hK _ ?_;clear hK K))
   refine xY (by rfl) (by rfl) (fun K hK=>?_)
   go_wp2_with fail
   refine hK _ _ (aj hv3) ?_
   clear hK K
   repeat (first|(refine ai (by rfl) ?_)|(refine qG (by rfl) (by rfl) (fun K hK=>?_);go_big_quiet_op;refine hK _ ?_;clear hK K))
   refine bz ?_
   have Ae:=Lib.hid (sH.out.later hv3)
   clear k1 k2 hd3 hv3
   go_wp2_with fail
   go_roundw
   case rel=>
    try rw[←Jh]
    try rw[←hat]
    (repeat apply Exists.intro)
    exact⟨⟨k+1,es,D,X,by omega,by go_num,Ae.out⟩,rfl⟩
   case measure=>simp[intOf];omega
  case yes hv i hi hnm hl ht=>
   obtain⟨hok,xZ⟩:aZ q=true∧jc now=true:=by simpa using hv
   rw[Yi mf.out.eq mf.out.rE hi hnm]
   have hi0:¬(i:Int)<0:=by omega
   have BN:bI X[i].2=true:=mf.out.rE.ok _ (List.mem_map.2 ⟨_,List.getElem_mem hi,rfl⟩)
   have hsm:Small X[i].2 (eu D.aF X[i].2):=VU BN (mf.out.has _ (List.getElem_mem hi)) mf.out.dJ.ok
   have amC:(i:Int)<(D.entries.length:Int):=by rw[mf.out.eq,List.length_map];omega
   dsimp only
   go_wp2_with fail
   refine(sZ _ _ _ EI.out).mono ?_
   rintro z V4 ⟨rfl,hb4⟩
   have mY:=ag hb3 hb4
   rw[hok]
   dsimp only
   go_wp2_with fail
   refine(EZ _ _).mono ?_
   rintro z v' ⟨rfl,rfl⟩
   rw[xZ]
   have BO:=Lib.hid (HF3.out.later hb4)
   have Af:=aI hb4 Ji
   have O9:=aI hb4 EH
   have Pg:bt<V3.heap.size:=by omega
   have Ph:V4.cell? ⟨bt,ot+k*3+1,none⟩=some (.bool sc):=(hb4.cell Pg).trans Jj
   have YE:bt<V4.heap.size:=by have:=hb4.size;omega
   obtain⟨bE,oE,cs,Jk,Ag,x0,hx0,rfl⟩:=BO.out.dS.out.rows.2 i hi
   obtain rfl:X[i]=x0:=by rw[List.getElem?_eq_getElem hi]at hx0;exact Option.some.inj hx0
   have Pj:row? V4 bE (oE+i*17) 17=some (ae X[i].1 X[i].2):=Ag
   have Pm:bE<V4.heap.size:=fA Ag
   have vU:=Lib.hid hsm
   obtain rfl:=alG ht (alD sc BN hsm xZ) hi hnm
   have YF:=Lib.hid ht
   clear ht
   generalize X[i].1=r at *
   generalize X[i].2=d at *
   clear xc xf xr xl Ag hx0 hsm hnm BN Jj Ji EH
   obtain⟨tc,tf,tr,tl⟩:=ax Af
   have EJ:V4.cell? ⟨T,2,none⟩=some (.slice (some ⟨bE,oE,none⟩) D.entries.length es.cap):=by rw[tc 2,Fb,Jk]
   have EK:row? V4 T 0 4=some (aA es ps D):=by rw[dI Af];exact gI (fC _ _ _)
   clear tc tf tr
   dsimp only
   go_wp2_with fail
   refine sU (Below.refl _ V4) (by kernel_rfl) (by kernel_rfl) ?_
   intro v1 hv1
   repeat (first|(refine ai (by rfl) ?_)|(refine bC (by rfl) (by rfl) (fun K hK=>?_);go_big_quiet_op;refine hK _ ?_;clear hK K))
   refine bZ (by rfl) (by rfl) (fun K hK=>?_)
   go_wp2_with fail
   refine(Ih es ps D r d v1 (BO.out.dJ.out.later hv1)).mono ?_
   rintro z v2 ⟨rfl,hv2⟩
   have aU:=ag hv1 hv2
   dsimp only
   refine hK _ _ (aj aU) ?_
   clear hK K
   repeat (first|(refine ai (by rfl) ?_)|(refine bC (by rfl) (by rfl) (fun K hK=>?_);go_big_quiet_op;refine hK _ ?_;clear hK K))
   refine bZ (by rfl) (by rfl) (fun K hK=>?_)
   go_wp2_with fail
   refine(Q7 r d (eu D.aF d) now v2 vU.out).mono ?_
   rintro z V5 ⟨rfl,hv3⟩
   have hb5:=ag aU hv3
   dsimp only
   refine hK _ _ (aj hb5) ?_
   clear hK K
   repeat (first|(refine ai (by rfl) ?_)|(refine bC (by rfl) (by rfl) (fun K hK=>?_);go_big_quiet_op;refine hK _ ?_;clear hK K))
   refine bz ?_
   rw[hl]
   clear hv1 hv2 aU hv3 EJ EK
   have aoI:=hb5
   have wu:=ag mY hb5
   have Pn:=aI hb5 Af
   have GL:=aI hb5 O9
   have Po:=Lib.hid (BO.out.later hb5)
   have HQ5:=Lib.hid (EI.out.later (ag hb4 hb5))
   have hs5:=wu.size
   have amE:V5.cell? ⟨bt,ot+k*3+1,none⟩=some (.bool sc):=(hb5.cell YE).trans Ph
   have YG:row? V5 bE (oE+i*17) 17=some (ae r d):=(fG (hb5.block _ Pm) _ _).trans Pj
   have aoJ:bE<V5.heap.size:=fA YG
   have aoK:bt<V5.heap.size:=by omega
   clear Ph Pj Pm Af O9 tl hb5
   obtain⟨tc,tf,tr,tl⟩:=ax Pn
   have EJ:V5.cell? ⟨T,2,none⟩=some (.slice (some ⟨bE,oE,none⟩) D.entries.length es.cap):=by rw[tc 2,Fb,Jk]
   have EK:row? V5 T 0 4=some (aA es ps D):=by rw[dI Pn];exact gI (fC _ _ _)
   clear tc tf tr
   go_wp2_with fail
   apply Ba (M:=fun(xb:Nat) V=>Below V5.heap.size V5 V∧V.heap[xb]?=some (.cells (ae r (gK d (eu D.aF d) sc now)) 44)∧V5.heap.size≤xb)
   case h1=>
    refine alx 19 11 18 [0,1,2,3,4,5,6,7,8,9,10,19,11,12,13,14,15,16,17,18,20] [0,1,2,3,4,5,6,7,8,9,10,11] [12,13,14,15,16,17,19,18,20] [12,13,14,15,16,17,18,19,20] (Below.refl _ V5) (by kernel_rfl) (by decide) (by decide) (by decide) (by kernel_rfl) (by rfl) (by rfl) (by rfl) (by rfl) ?_ ?_
    ·intro v1 hv1
     simp only[pick,List.getElem?_cons_zero,List.getElem?_cons_succ]
     repeat (first|(refine ai (by rfl) ?_)|(refine au (by rfl) (by rfl) (fun K hK=>?_);go_big_quiet_op;refine hK _ ?_;clear hK K))
     refine aB (by rfl) (by rfl) (fun K hK=>?_)
     go_wp2_with fail
     refine hK _ _ (aj (ay hv1 _)) ?_
     clear hK K
     rw[←mO]
     have hz1:=World.alloc_heap_new v1 (.cells (ae bg aV) 44)
     have iF:=ay hv1 (.cells (ae bg aV) 44)
     generalize v1.alloc (.cells (ae bg aV) 44)=Z at *
     repeat (first|(refine ai (by rfl) ?_)|(refine au (by rfl) (by rfl) (fun K hK=>?_);go_big_quiet_op;refine hK _ ?_;clear hK K))
     refine aB (by rfl) (by rfl) (fun K hK=>?_)
     go_wp2_with fail
     refine(Ih es ps D r d Z (Po.out.dJ.out.later iF)).mono ?_
     rintro z v2 ⟨rfl,hv2⟩
     have aU:=ag iF hv2
     dsimp only
     refine hK _ _ (aj aU) ?_
     clear hK K
     repeat (first|(refine ai (by rfl) ?_)|(refine au (by rfl) (by rfl) (fun K hK=>?_);go_big_quiet_op;refine hK _ ?_;clear hK K))
     refine aB (by rfl) (by rfl) (fun K hK=>?_)
     go_wp2_with fail
     refine(O4 r d (eu D.aF d) sc now v2 vU.out).mono ?_
     rintro z v3 ⟨rfl,hv3⟩
     have oO:=ag aU hv3
     dsimp only
     have hz3:=aI hv3 (aI hv2 hz1)
     have hcp:aX v3 v1.heap.size 0 17=true:=iC hz3 (by simp[go_sem])
     have Ah:=Go.WW.Below.putRow (o:=0) (cs:=ae r (gK d (eu D.aF d) sc now)) oO hv1.size
     refine hK _ _ (aj oO) ?_
     clear hK K
     repeat (first|(refine ai (by rfl) ?_)|(refine au (by rfl) (by rfl) (fun K hK=>?_);go_big_quiet_op;refine hK _ ?_;clear hK K))
     refine aB (by rfl) (by rfl) (fun K hK=>?_)
     go_wp2_with fail
     refine hK _ _ (aj Ah) ?_
     clear hK K
     repeat (first|(refine ai (by rfl) ?_)|(refine au (by rfl) (by rfl) (fun K hK=>?_);go_big_quiet_op;refine hK _ ?_;clear hK K))
     clear hv2 aU iF hz1
     refine bz ?_
     have hxb:=jk (o:=0) (cs:=ae r (gK d (eu D.aF d) sc now)) hz3 (by simp[go_sem])
     rw[kR (by simp[go_sem])]at hxb
     have hxm:V5.heap.size≤v1.heap.size:=hv1.size
     clear hv3 oO hcp hz3
     generalize (putRow v3 v1.heap.size 0 (ae r (gK d (eu D.aF d) sc now)))=V6 at *
     generalize v1.heap.size=xb at *
     exact⟨by first|rfl|trivial,xb,rfl,⟨Ah,hxb,hxm⟩⟩
    ·intro v1 hv1
     simp only[pick,List.getElem?_cons_zero,List.getElem?_cons_succ]
     repeat (first|(refine ai (by rfl) ?_)|(refine au (by rfl) (by rfl) (fun K hK=>?_);go_big_quiet_op;refine hK _ ?_;clear hK K))
     refine aB (by rfl) (by rfl) (fun K hK=>?_)
     go_wp2_with fail
     refine(Ih es ps D r d v1 (Po.out.dJ.out.later hv1)).mono ?_
     rintro z v2 ⟨rfl,hv2⟩
     have aU:=ag hv1 hv2
     dsimp only
     refine hK _ _ (aj aU) ?_
     clear hK K
     refine bz ?_
     refine⟨?_,?_⟩
     ·repeat (first|(refine ai (by rfl) ?_)|(refine au (by rfl) (by rfl) (fun K hK=>?_);go_big_quiet_op;refine hK _ ?_;clear hK K))
      refine aB (by rfl) (by rfl) (fun K hK=>?_)
      go_wp2_with fail
      refine hK _ _ (aj (ay aU _)) ?_
      clear hK K
      rw[←mO]
      have hz1:=World.alloc_heap_new v2 (.cells (ae bg aV) 44)
      have iF:=ay aU (.cells (ae bg aV) 44)
      generalize v2.alloc (.cells (ae bg aV) 44)=Z at *
      repeat (first|(refine ai (by rfl) ?_)|(refine au (by rfl) (by rfl) (fun K hK=>?_);go_big_quiet_op;refine hK _ ?_;clear hK K))
      refine aB (by rfl) (by rfl) (fun K hK=>?_)
      go_wp2_with fail
      refine(O4 r d (eu D.aF d) sc now Z vU.out).mono ?_
      rintro z v3 ⟨rfl,hv3⟩
      have oO:=ag iF hv3
      dsimp only
      have hz3:=aI hv3 hz1
      have hcp:aX v3 v2.heap.size 0 17=true:=iC hz3 (by simp[go_sem])
      have Ah:=Go.WW.Below.putRow (o:=0) (cs:=ae r (gK d (eu D.aF d) sc now)) oO aU.size
      refine hK _ _ (aj oO) ?_
      clear hK K
      repeat (first|(refine ai (by rfl) ?_)|(refine au (by rfl) (by rfl) (fun K hK=>?_);go_big_quiet_op;refine hK _ ?_;clear hK K))
      refine aB (by rfl) (by rfl) (fun K hK=>?_)
      go_wp2_with fail
      refine hK _ _ (aj Ah) ?_
      clear hK K
      repeat (first|(refine ai (by rfl) ?_)|(refine au (by rfl) (by rfl) (fun K hK=>?_);go_big_quiet_op;refine hK _ ?_;clear hK K))
      clear iF hz1
      refine bz ?_
      have hxb:=jk (o:=0) (cs:=ae r (gK d (eu D.aF d) sc now)) hz3 (by simp[go_sem])
      rw[kR (by simp[go_sem])]at hxb
      have hxm:V5.heap.size≤v2.heap.size:=aU.size
      clear hv3 oO hcp hz3
      generalize (putRow v3 v2.heap.size 0 (ae r (gK d (eu D.aF d) sc now)))=V6 at *
      generalize v2.heap.size=xb at *
      exact⟨by first|rfl|trivial,xb,rfl,⟨Ah,hxb,hxm⟩⟩
     ·repeat (first|(refine ai (by rfl) ?_)|(refine au (by rfl) (by rfl) (fun K hK=>?_);go_big_quiet_op;refine hK _ ?_;clear hK K))
      refine aB (by rfl) (by rfl) (fun K hK=>?_)
      go_wp2_with fail
      refine(O4 r d (eu D.aF d) sc now v2 vU.out).mono ?_
      rintro z v3 ⟨rfl,hv3⟩
      have oO:=ag aU hv3
      dsimp only
      refine hK _ _ (aj oO) ?_
      clear hK K
      repeat (first|(refine ai (by rfl) ?_)|(refine au (by rfl) (by rfl) (fun K hK=>?_);go_big_quiet_op;refine hK _ ?_;clear hK K))
      refine aB (by rfl) (by rfl) (fun K hK=>?_)
      go_wp2_with fail
      refine hK _ _ (aj (ay oO _)) ?_
      clear hK K
      repeat (first|(refine ai (by rfl) ?_)|(refine au (by rfl) (by rfl) (fun K hK=>?_);go_big_quiet_op;refine hK _ ?_;clear hK K))
      refine aB (by rfl) (by rfl) (fun K hK=>?_)
      go_wp2_with fail
      refine hK _ _ (aj (ay oO (.cells (ae r (gK d (eu D.aF d) sc now)) 44))) ?_
      clear hK K
      repeat (first|(refine ai (by rfl) ?_)|(refine au (by rfl) (by rfl) (fun K hK=>?_);go_big_quiet_op;refine hK _ ?_;clear hK K))
      refine bz ?_
      have Ah:=ay oO (.cells (ae r (gK d (eu D.aF d) sc now)) 44)
      have hxb:=World.alloc_heap_new v3 (.cells (ae r (gK d (eu D.aF d) sc now)) 44)
      have hxm:V5.heap.size≤v3.heap.size:=oO.size
      clear hv3 oO aU
      generalize (v3.alloc (.cells (ae r (gK d (eu D.aF d) sc now)) 44))=V6 at *
      generalize v3.heap.size=xb at *
      exact⟨by first|rfl|trivial,xb,rfl,⟨Ah,hxb,hxm⟩⟩
   rintro xb V6 ⟨hb6,hxb,hxm⟩
   have Ee:=ag wu hb6
   have YH:=aI hb6 Pn
   have amF:=aI hb6 GL
   clear EJ EK amE YG
   obtain⟨ac,af,ar,al⟩:=ax hxb
   obtain⟨xc,xf,xr,xl⟩:=ax amF
   obtain⟨tc,tf,tr,tl⟩:=ax YH
   go_wp2_with fail
   refine(aiV (fun j=>aW b n e p j∨j=T) es ps D X V6 sq q _ _ _ (Po.out.later hb6) (fun j hj=>by have:=HR1.out.kE.lt j hj;have:=Ee.size;omega) (HQ5.out.later hb6) mf.out.eq mf.out.rE hd0 (by omega)).mono ?_
   rintro z V7 ⟨no2,es',D2,X2,rfl,hb7,YI,hst2⟩
   obtain⟨rfl,rfl,rfl⟩:=aiA YF.out hst2
   have Jl:=aI hb7 YH
   have amG:aX V7 T 0 4=true:=iC Jl (by simp[fC])
   have hT7:T<V7.heap.size:=(Array.getElem?_eq_some_iff.1 Jl).1
   have IM:=ag Ee hb7
   have YJ:But (one T) V2 (putRow V7 T 0 (aA es' ps D')):=(But.of_below IM).put rfl
   have Pq:=jk (o:=0) (cs:=aA es' ps D') Jl (by simp[fC])
   rw[kR (by simp[fC])]at Pq
   have YK:=YI.on ((But.refl _ V7).put (g:=T) (o:=0) (cs:=aA es' ps D') (.inr rfl))
   obtain⟨g1,g2,g3,g4,g5⟩:=aiU YF.out
   have ja:=Lib.hid (HR1.out.next (Below.refl _ _) hbu HP2.out HR2.out YJ Pq YK g2 g3 g4 g5 g1)
   clear ac af ar al xc xf xr xl tc tf tr tl
   dsimp only
   go_wp2_with fail
   clear amG Jl YI YK Pq YJ
   generalize (putRow V7 T 0 (aA es' ps D'))=U at *
   obtain⟨uc,uf,ur,ul⟩:=ax ja.out.box
   obtain⟨S1,hS1⟩:∃S1,S1=ByteArray.mk (jX D').toArray:=⟨_,rfl⟩
   have pO:=Lib.hid hS1
   clear hS1
   have hbq:(S1.toList == S1.toList)=true:=by simp
   refine Jc (since U) looks (qF 148) 6 8 5 [0,1,2,3,4,8,5,6] [7,9,10,11,12] (by kernel_rfl) (by kernel_rfl) (by kernel_rfl) (by decide) (by rfl) (by rfl) ⟨⟨World.drew U,(Below.refl _ U).drew⟩,rfl⟩ ?_
   have hz0:Below U.heap.size U U.drew:=(Below.refl _ U).drew
   generalize U.drew=v0 at hz0 ⊢
   simp only[pick,List.getElem?_cons_zero,List.getElem?_cons_succ]
   repeat (first|(refine ai (by rfl) ?_)|(refine au (by rfl) (by rfl) (fun K hK=>?_);go_big_quiet_op;refine hK _ ?_;clear hK K))
   refine aB (by rfl) (by rfl) (fun K hK=>?_)
   go_wp2_with fail
   refine(iy _ _).mono ?_
   rintro z v' ⟨rfl,rfl⟩
   dsimp only
   refine hK _ _ (aj hz0) ?_
   clear hK K
   repeat (first|(refine ai (by rfl) ?_)|(refine au (by rfl) (by rfl) (fun K hK=>?_);go_big_quiet_op;refine hK _ ?_;clear hK K))
   refine aB (by rfl) (by rfl) (fun K hK=>?_)
   go_wp2_with fail
   refine(Jd (ja.out.later hz0).kE (by omega) ja.out.x10 ja.out.p10 (nX HT.out (ag ja.out.out hz0))).mono ?_
   rintro z v2 ⟨za,rfl,hv2,hd2⟩
   have aU:=ag hz0 hv2
   dsimp only
   refine hK _ _ (aj aU) ?_
   clear hK K
   refine bz ?_
   refine⟨since v2,fun v hv=>?_,⟨⟨v2,Below.refl _ _⟩,rfl⟩,?_⟩
   ·obtain⟨x,rfl⟩:=hv
    exact⟨⟨x.w,ag aU x.b⟩,rfl⟩
   have HD2:=Lib.hid hd2.out
   have sH:=Lib.hid (ja.out.later aU)
   have k1:∀v:Later v2,(convert 58 9 (.slice za.a (jX D').length za.cap)).run Tryz.prog v.w=.ok (.string S1) v.w:=fun v=>pO.out▸wJ za.a za.cap (jX D') _ (HD2.out.later v.b)
   clear uc uf ur ul hd2 hv2 aU hz0
   repeat (first|(refine ai (by rfl) ?_)|(refine qG (by rfl) (by rfl) (fun K hK=>?_);go_big_quiet_op;refine hK _ ?_;clear hK K))
   refine xY (by rfl) (by rfl) (fun K hK=>?_)
   go_wp2_with fail
   refine(Je sH.out.kE (by omega)).mono ?_
   rintro z v3 ⟨zb,rfl,hv3,hd3⟩
   have k2:=wJ zb.a zb.cap (jX D') v3 hd3.out
   rw[←pO.out]at k2
   dsimp only
   refine hK _ _ (aj hv3) ?_
   clear hK K
   repeat (first|(refine ai (by rfl) ?_)|(refine qG (by rfl) (by rfl) (fun K hK=>?_);go_big_quiet_op;refine hK _ ?_;clear hK K))
   refine xY (by rfl) (by rfl) (fun K hK=>?_)
   go_wp2_with fail
   refine hK _ _ (aj hv3) ?_
   clear hK K
   repeat (first|(refine ai (by rfl) ?_)|(refine qG (by rfl) (by rfl) (fun K hK=>?_);go_big_quiet_op;refine hK _ ?_;clear hK K))
   refine bz ?_
   have Ae:=Lib.hid (sH.out.later hv3)
   clear k1 k2 hd3 hv3
   go_wp2_with fail
   go_roundw
   case rel=>
    try rw[←Jh]
    try rw[←hat]
    (repeat apply Exists.intro)
    exact⟨⟨k+1,es',D',X',by omega,by go_num,Ae.out⟩,rfl⟩
   case measure=>simp[intOf];omega
end Go.Proofs.YtpfifochimkpfaaGreatDoor
