/- A part of the proof. -/
import Derived.Test.YtfieenjdcpjmgaaGreatDoorB33
import Derived.Test.YtfieenjdcpjmgaaGreatDoorB12
import Derived.Test.YtfieenjdcpjmgaaGreatDoorB20
import Derived.Test.YtfieenjdcpjmgaaGreatDoorB21
import Derived.Test.YtfieenjdcpjmgaaGreatDoorB24
import Derived.Test.YtfieenjdcpjmgaaGreatDoorB22
import Derived.Test.YtfieenjdcpjmgaaGreatDoorB32
import Derived.ScopeJumps
import Derived.Laws.EntriesVeiled
set_option maxRecDepth 100000
set_option maxHeartbeats 4000000
namespace Go.WW
open Go.RowKit
def Jj:List UInt8:=[1,82,0,0,0,0,0,0,0,0,0,0,0,0,0,0,0,0]
theorem aoD:BJ (eQ dH):=⟨by decide,by decide,by simp[eQ],by simp[eQ],by simp[eQ],by simp[eQ]⟩
def badL:List UInt8:=[1,82,0,0,0,0,0,0,0,0,0,0,0,0,0,0,0,0,0]
theorem Fa(w:World)(b:Nat)(v:Value):But (one b) w (w.setCell ⟨b,0,none⟩ v):=
 ⟨rfl,rfl,rfl,by simp[World.setCell],fun k _ hn=>Below.heap_setCell _ _ _ _ (fun e=>hn e)⟩
theorem aoE{ι κ:Type}{P:Program}{a:Act}{w:World}{Q:Exit→Act→World→Prop}{c rest:Code}(l:Nat)(M:ι→κ→World→Prop)(F:ι→κ→Act)(hf:findLabel c l=some rest)
  (h1:c.wp P (fun e a' w'=>e=.goto l∧∃i j,a'=F i j∧Bg (M i j) w') a w) (h2:∀i j w',M i j w'→rest.wp P (Exit.noGoto Q) (F i j) w'):(Code.scope c).wp P Q a w:=by
 refine wp_scope_jumps l (fun a' w'=>∃i j,a'=F i j∧Bg (M i j) w') (fun _ _=>0) hf (wp_mono h1 ?_) ?_
 ·rintro e a' w' ⟨rfl,h⟩
  exact⟨rfl,h⟩
 ·rintro a' w' ⟨i,j,rfl,h⟩
  refine wp_mono (h2 i j w' h.out) ?_
  intro e a'' w'' he
  cases e with
  |goto l'=>exact he.elim
  |normal=>exact he
  |exit id=>exact he
  |ret=>exact he
  |panic ch=>exact he
  |outgrown=>exact he
end Go.WW
namespace Go.Proofs.YtfieenjdcpjmgaaGreatDoor
open Go.RowKit Go.WW
theorem PX{S:Nat→Prop}{w w':World}{b n e p:Nat}{re:ByteArray}{s:Int}{N:List (ByteArray×Value)}{E:List EE}{P:List ai}(h:bU w b n e p re s N E P)(hb:But S w w')(h1:¬S b)(h2:¬S n)(h3:¬S e)(h4:¬S p):bU w' b n e p re s N E P:=
 ⟨(hb.block b (Array.getElem?_eq_some_iff.1 h.box).1 h1).trans h.box,h.nm.at (hb.block n h.nm.lt h2),h.em.at (hb.block e h.em.lt h3),h.pm.at (hb.block p h.pm.lt h4),h.ne⟩
theorem aoF(bb cap:Nat)(w:World)(hb:BytesAt w (some ⟨bb,0,none⟩) badL)(hc1:19≤cap)(hc2:cap≤9223372036854775807)(hT:wz Tryz.prog w):Calls Tryz.prog 20 #[.slice (some ⟨bb,0,none⟩) 19 cap] w fun e w'=>e=.returned (.tuple #[.pointer none,.int .i64 6])∧Below w.heap.size w w':=by
 go_enter Tryz.func20,Tryz.ntmps20
 go_wp2_with fail
 apply aoE 0 (M:=fun(_:Nat) (_:Sl) V=>Below w.heap.size w V)
 case hf=>rfl
 case h1=>
  have hbb:bb<w.heap.size:=World.block_lt_of_cell? w _ (hb.at 0 (by simp[badL]))
  have hB:Below w.heap.size w (((w.alloc (.cells #[.slice (some ⟨bb,0,none⟩) 19 cap] 61)).alloc (.cells #[.bool false] 4)).alloc (.cells #[.func (.func 53) #[] #[.pointer (some ⟨w.heap.size+1,0,none⟩),.pointer (some ⟨w.heap.size,0,none⟩)]] 112)):=aj (aj (aj (Below.refl _ _) _) _) _
  have hL:oM (((w.alloc (.cells #[.slice (some ⟨bb,0,none⟩) 19 cap] 61)).alloc (.cells #[.bool false] 4)).alloc (.cells #[.func (.func 53) #[] #[.pointer (some ⟨w.heap.size+1,0,none⟩),.pointer (some ⟨w.heap.size,0,none⟩)]] 112)) 53 w.heap.size (w.heap.size+1) (w.heap.size+1+1) 4 61 112 bb 0 19 cap:=by
   refine⟨?_,?_,?_,by omega,by omega,by omega,hc1,hc2⟩
   ·have:=jq (w.alloc (.cells #[.slice (some ⟨bb,0,none⟩) 19 cap] 61)) (.cells #[.bool false] 4) (.cells #[.func (.func 53) #[] #[.pointer (some ⟨w.heap.size+1,0,none⟩),.pointer (some ⟨w.heap.size,0,none⟩)]] 112)
    rwa[World.size_alloc]at this
   ·rw[Below.heap_alloc _ _ _ (by simp;omega)];exact jq _ _ _
   ·have:=World.alloc_heap_new ((w.alloc (.cells #[.slice (some ⟨bb,0,none⟩) 19 cap] 61)).alloc (.cells #[.bool false] 4)) (.cells #[.func (.func 53) #[] #[.pointer (some ⟨w.heap.size+1,0,none⟩),.pointer (some ⟨w.heap.size,0,none⟩)]] 112)
    rwa[World.size_alloc,World.size_alloc]at this
  have hsz:(((w.alloc (.cells #[.slice (some ⟨bb,0,none⟩) 19 cap] 61)).alloc (.cells #[.bool false] 4)).alloc (.cells #[.func (.func 53) #[] #[.pointer (some ⟨w.heap.size+1,0,none⟩),.pointer (some ⟨w.heap.size,0,none⟩)]] 112)).heap.size=w.heap.size+3:=by simp
  go_wp2_with fail
  generalize (((w.alloc (.cells #[.slice (some ⟨bb,0,none⟩) 19 cap] 61)).alloc (.cells #[.bool false] 4)).alloc (.cells #[.func (.func 53) #[] #[.pointer (some ⟨w.heap.size+1,0,none⟩),.pointer (some ⟨w.heap.size,0,none⟩)]] 112))=V0 at *
  have HW:=Lib.hid (And.intro hB hT)
  have ed:=hb.later hB
  obtain⟨c9,f9,r9,l9⟩:=aB hL.cut
  have n97:=bu (p:=w.heap.size) (k:=w.heap.size+1+1) (by omega)
  have nbb:=bu (p:=w.heap.size) (k:=bb) (by omega)
  have Jk:bb<V0.heap.size:=by omega
  have hkc:∀x:qf (one w.heap.size) V0,(convert 61 9 (.slice (some ⟨bb,1,none⟩) 1 1)).run Tryz.prog x.w=.ok (.string dH) x.w:=fun x=>by
   have h82:BytesAt x.w (some ⟨bb,1,none⟩) [82]:=by
    refine⟨by simp[lim],fun i hi=>?_⟩
    have hi0:i=0:=by simpa using hi
    subst hi0
    have h1:=ed.at 1 (by simp[badL])
    refine⟨bb,1,_,rfl,(x.b.cell Jk nbb).trans h1,82,rfl,rfl⟩
   exact rW (some ⟨bb,1,none⟩) 1 [82] x.w h82
  have hD0:Below V0.heap.size V0 V0.drew:=(Below.refl _ V0).drew
  apply qy (M:=fun(b:Nat) V=>∃n e p,But (one w.heap.size) V0 V∧oM V 53 w.heap.size (w.heap.size+1) (w.heap.size+1+1) 4 61 112 bb 2 17 (cap-2)∧bU V b n e p dH 0 [] [] []∧V0.heap.size≤b∧V0.heap.size≤n∧V0.heap.size≤e∧V0.heap.size≤p)
  case h1=>
   refine oZ (one w.heap.size) (But.refl _ V0) (by kernel_rfl) (by kernel_rfl) ?_
   repeat (first|(refine ax (by rfl) ?_)|(refine aP (by rfl) (by rfl) (fun K hK=>?_);go_big_quiet_op;refine hK _ ?_;clear hK K))
   refine aU (by rfl) (by rfl) (fun K hK=>?_)
   go_wp2_with fail
   refine(aoC w.heap.size (w.heap.size+1) (w.heap.size+1+1) bb 0 19 cap _ V0.drew (hL.later hD0) (by omega) (by omega) ((hD0.cell Jk).trans (ed.at 0 (by simp[badL]))) Jk).mono ?_
   rintro z V1 ⟨rfl,hV1⟩
   have hb1:But (one w.heap.size) V0 V1:=by rw[hV1];exact(But.of_below hD0).trans (Fa _ _ _)
   have hL1:oM V1 53 w.heap.size (w.heap.size+1) (w.heap.size+1+1) 4 61 112 bb 1 18 (cap-1):=by rw[hV1];exact(hL.later hD0).next (n:=1) (by omega)
   clear hV1
   dsimp only
   refine hK _ _ (dw hb1) ?_
   clear hK K
   repeat (first|(refine ax (by rfl) ?_)|(refine aP (by rfl) (by rfl) (fun K hK=>?_);go_big_quiet_op;refine hK _ ?_;clear hK K))
   refine aU (by rfl) (by rfl) (fun K hK=>?_)
   go_wp2_with fail
   refine(cut_c w.heap.size (w.heap.size+1) (w.heap.size+1+1) bb 1 18 (cap-1) _ V1 hL1 1 (by omega) (by omega)).mono ?_
   rintro z V2 ⟨rfl,hV2⟩
   have hb2:But (one w.heap.size) V0 V2:=by rw[hV2];exact hb1.trans (Fa _ _ _)
   have hL2:oM V2 53 w.heap.size (w.heap.size+1) (w.heap.size+1+1) 4 61 112 bb 2 17 (cap-2):=by rw[hV2];exact hL1.next (n:=1) (by omega)
   clear hV2 hL1 hb1
   dsimp only
   refine hK _ _ (dw hb2) ?_
   clear hK K
   repeat (first|(refine ax (by rfl) ?_)|(refine aP (by rfl) (by rfl) (fun K hK=>?_);go_big_quiet_op;refine hK _ ?_;clear hK K))
   refine aU (by rfl) (by rfl) (fun K hK=>?_)
   go_wp2_with fail
   refine(Ld dH V2 (by simp[lim,ByteArray.size]) WL).mono ?_
   rintro z V3 ⟨b,n,e,p,rfl,hb3,oD,u1,u2,u3,u4⟩
   have tZ:=hb2.trans (But.of_below (S:=one w.heap.size) hb3)
   have hs2:=hb2.size
   dsimp only
   refine hK _ _ (dw tZ) ?_
   clear hK K
   repeat (first|(refine ax (by rfl) ?_)|(refine aP (by rfl) (by rfl) (fun K hK=>?_);go_big_quiet_op;refine hK _ ?_;clear hK K))
   refine bV ?_
   exact⟨by first|rfl|trivial,b,rfl,⟨n,e,p,tZ,hL2.later hb3,oD,by omega,by omega,by omega,by omega⟩⟩
  rintro b V ⟨n,e,p,hbu,hL2,oD,u1,u2,u3,u4⟩
  clear c9 f9 r9 l9 hkc hD0 n97
  obtain⟨c8,f8,r8,l8⟩:=aB hL2.short
  have hs:=hbu.size
  have hz0:∀j (h:j<badL.length),2≤j→badL[j]=0:=by decide
  have hz:∀V':World,But (one w.heap.size) V0 V'→∀j,2≤j→j<19→V'.cell? ⟨bb,j,none⟩=some (.int .u8 0):=fun V' hv j h1 h2=>by
   have h3:=(hv.cell Jk nbb).trans (ed.at j (by simpa[badL]using h2))
   rw[hz0 j (by simpa[badL]using h2) h1,Nat.zero_add]at h3
   exact h3
  have vK:=hbu
  have PY:=hL2
  have aam:=oD
  clear hbu hL2 oD c8 f8 r8 l8
  go_wp2_with fail
  refine(PW w.heap.size (w.heap.size+1) (w.heap.size+1+1) bb 2 17 (cap-2) _ V PY 8 (by omega) (by omega) (fun i hi=>hz V vK (2+i) (by omega) (by omega)) (by have:=vK.size;omega)).mono ?_
  rintro z V1 ⟨rfl,hV⟩
  have hbn:But (one w.heap.size) V V1:=by rw[hV];exact Fa _ _ _
  have PZ:oM V1 53 w.heap.size (w.heap.size+1) (w.heap.size+1+1) 4 61 112 bb 10 9 (cap-10):=by rw[hV];exact PY.next (n:=8) (by omega)
  have Jl:=vK.trans hbn
  have aan:=PX aam hbn (bu (by omega)) (bu (by omega)) (bu (by omega)) (bu (by omega))
  clear hV hbn PY vK aam
  dsimp only
  go_wp2_with fail
  refine(PW w.heap.size (w.heap.size+1) (w.heap.size+1+1) bb 10 9 (cap-10) _ V1 PZ 4 (by omega) (by omega) (fun i hi=>hz V1 Jl (10+i) (by omega) (by omega)) (by have:=Jl.size;omega)).mono ?_
  rintro z V2 ⟨rfl,hV⟩
  have hbn:But (one w.heap.size) V1 V2:=by rw[hV];exact Fa _ _ _
  have P5:oM V2 53 w.heap.size (w.heap.size+1) (w.heap.size+1+1) 4 61 112 bb 14 5 (cap-14):=by rw[hV];exact PZ.next (n:=4) (by omega)
  have Jm:=Jl.trans hbn
  have aao:=PX aan hbn (bu (by omega)) (bu (by omega)) (bu (by omega)) (bu (by omega))
  clear hV hbn PZ Jl aan
  dsimp only
  go_wp2_with fail
  refine wp_loop_rounds 1 ?_
  rw[rounds_succ]
  go_wp2_with fail
  refine(PW w.heap.size (w.heap.size+1) (w.heap.size+1+1) bb 14 5 (cap-14) _ V2 P5 4 (by omega) (by omega) (fun i hi=>hz V2 Jm (14+i) (by omega) (by omega)) (by have:=Jm.size;omega)).mono ?_
  rintro z V3 ⟨rfl,hV⟩
  have hbn:But (one w.heap.size) V2 V3:=by rw[hV];exact Fa _ _ _
  have aoH:oM V3 53 w.heap.size (w.heap.size+1) (w.heap.size+1+1) 4 61 112 bb 18 1 (cap-18):=by rw[hV];exact P5.next (n:=4) (by omega)
  have aoI:=Jm.trans hbn
  have qG:=PX aao hbn (bu (by omega)) (bu (by omega)) (bu (by omega)) (bu (by omega))
  clear hV hbn P5 Jm aao
  dsimp only
  go_wp2_with fail
  refine wp_loop_rounds 1 ?_
  rw[rounds_succ]
  obtain⟨d0,d1,d2,d3,d4,g1,gl⟩:=dO qG.box
  obtain⟨c8,f8,r8,l8⟩:=aB aoH.short
  have nb8:w.heap.size+1≠b:=by omega
  have hdt:pR (eQ dH)=Jj:=by decide +kernel
  have HDT:=Lib.hid hdt
  clear hdt
  go_wp2_with fail
  have hB3:Below w.heap.size w V3:=((But.of_below (S:=fun j=>w.heap.size≤j) HW.out.1).trans (aoI.mono fun j (hj:j=w.heap.size)=>by omega)).below (Nat.le_refl _) fun j hj=>hj
  have hB4:Below w.heap.size w (V3.setCell ⟨b,1,none⟩ (.int .i64 0)):=hB3.setCell (by show w.heap.size≤b;omega) _
  have hset:=dI (o:=1) (.int .i64 0) qG.box
  rw[uY]at hset
  have hbn:=fM qG.box qG.nm
  have hbe:=fM qG.box qG.em
  have hbp:=fM qG.box qG.pm
  have aoJ:bU (V3.setCell ⟨b,1,none⟩ (.int .i64 0)) b n e p dH 0 [] [] []:=
   ⟨hset,qG.nm.at (Below.heap_setCell _ _ _ _ hbn.symm),qG.em.at (Below.heap_setCell _ _ _ _ hbe.symm),qG.pm.at (Below.heap_setCell _ _ _ _ hbp.symm),qG.ne⟩
  have hb4:BytesAt (V3.setCell ⟨b,1,none⟩ (.int .i64 0)) (some ⟨bb,0,none⟩) badL:=hb.later hB4
  clear d0 d1 d2 d3 d4 g1 gl c8 f8 r8 l8 hset
  generalize (V3.setCell ⟨b,1,none⟩ (.int .i64 0))=V4 at *
  refine(ZX b n e p dH [] [] [] (eQ dH) [] V4 aoJ vI rfl MZ List.Pairwise.nil (by simp) aoD (by simp) (by simp) (by decide) (kG hT hB4)).mono ?_
  rintro z V5 ⟨za,rfl,hb5,hd5⟩
  rw[HDT.out]
  have hd6:=hd5.out
  rw[HDT.out]at hd6
  dsimp only
  go_wp2_with fail
  refine(alI za.a (some ⟨bb,0,none⟩) za.cap cap Jj badL V5 hd6 (hb4.later hb5)).mono ?_
  rintro z V6 ⟨rfl,hb6⟩
  rw[show decide (Jj=badL)=false from by decide]
  dsimp only
  go_wp2_with fail
  apply wp_goto
  exact⟨rfl,b,za,rfl,⟨ag (ag hB4 hb5) hb6⟩⟩
 case h2=>
  rintro b za V hV
  go_wp2_with fail
  dsimp only[Exit.noGoto]
  first|go_ret2|refine bodyPost_ret (results_tmp2 (by rfl) _ _ _) (by rfl) ?_
  exact⟨rfl,hV⟩
end Go.Proofs.YtfieenjdcpjmgaaGreatDoor
