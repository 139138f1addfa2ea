/- A part of the proof. -/
import Derived.Test.YtfieenjdcpjmgaaGreatDoorA31
import Derived.Test.YtfieenjdcpjmgaaGreatDoorA12
import Derived.Test.YtfieenjdcpjmgaaGreatDoorA20
import Derived.Test.YtfieenjdcpjmgaaGreatDoorA21
import Derived.Test.YtfieenjdcpjmgaaGreatDoorA30
import Derived.Test.YtfieenjdcpjmgaaGreatDoorA22
import Derived.ScopeJumps
import Derived.Laws.EntriesVeiled
import Derived.Test.YtfieenjdcpjmgaaGreatDoorA10
import Derived.Test.YtfieenjdcpjmgaaGreatDoorA08
import Derived.Test.YtfieenjdcpjmgaaGreatDoorA03
import Derived.Test.YtfieenjdcpjmgaaGreatDoorA24
set_option maxRecDepth 100000
set_option maxHeartbeats 8000000
namespace Go.WW
open Go.RowKit
def I8:List UInt8:=[1,82,0,0,0,0,0,0,0,0,0,0,0,0,0,0,0,0]
theorem anR:BC (eu bg):=⟨by decide,by decide,by simp[eu],by simp[eu],by simp[eu],by simp[eu]⟩
def badL:List UInt8:=[1,82,0,0,0,0,0,0,0,0,0,0,0,0,0,0,0,0,0]
theorem ET(w:World)(b:Nat)(v:Value):But (one b) w (w.setCell ⟨b,0,none⟩ v):=
 ⟨rfl,rfl,rfl,by simp[World.setCell],fun k _ hn=>Below.heap_setCell _ _ _ _ (fun e=>hn e)⟩
theorem anS{ι κ:Type}{P:Program}{a:Act}{w:World}{Q:Exit→Act→World→Prop}{c rest:Code}(l:Nat)(M:ι→κ→World→Prop)(F:ι→κ→Act)(hf:findLabel c l=some rest)
  (h1:c.wp P (fun e a' w'=>e=.goto l∧∃i j,a'=F i j∧AX (M i j) w') a w) (h2:∀i j w',M i j w'→rest.wp P (Exit.noGoto Q) (F i j) w'):(Code.scope c).wp P Q a w:=by
 refine wp_scope_jumps l (fun a' w'=>∃i j,a'=F i j∧AX (M i j) w') (fun _ _=>0) hf (wp_mono h1 ?_) ?_
 ·rintro e a' w' ⟨rfl,h⟩
  exact⟨rfl,h⟩
 ·rintro a' w' ⟨i,j,rfl,h⟩
  refine wp_mono (h2 i j w' h.out) ?_
  intro e a'' w'' he
  cases e with
  |goto l'=>exact he.elim
  |normal=>exact he
  |exit id=>exact he
  |ret=>exact he
  |panic ch=>exact he
  |outgrown=>exact he
end Go.WW
namespace Go.Proofs.YtfieenjdcpjmgaaGreatDoor
open Go.RowKit Go.WW
theorem Pq{S:Nat→Prop}{w w':World}{b n e p:Nat}{re:ByteArray}{s:Int}{N:List (ByteArray×Value)}{E:List EE}{P:List ah}(h:bU w b n e p re s N E P)(hb:But S w w')(h1:¬S b)(h2:¬S n)(h3:¬S e)(h4:¬S p):bU w' b n e p re s N E P:=
 ⟨(hb.block b (Array.getElem?_eq_some_iff.1 h.box).1 h1).trans h.box,h.nm.at (hb.block n h.nm.lt h2),h.em.at (hb.block e h.em.lt h3),h.pm.at (hb.block p h.pm.lt h4),h.ne⟩
theorem anT(bb cap:Nat)(w:World)(hb:BytesAt w (some ⟨bb,0,none⟩) badL)(hc1:19≤cap)(hc2:cap≤9223372036854775807)(hT:uI Tryz.prog w):Calls Tryz.prog 20 #[.slice (some ⟨bb,0,none⟩) 19 cap] w fun e w'=>e=.returned (.tuple #[.pointer none,.int .i64 6])∧Below w.heap.size w w':=by
 go_enter Tryz.func20,Tryz.ntmps20
 go_wp2_with fail
 apply anS 0 (M:=fun(_:Nat) (_:Sl) V=>Below w.heap.size w V)
 case hf=>rfl
 case h1=>
  have hbb:bb<w.heap.size:=World.block_lt_of_cell? w _ (hb.at 0 (by simp[badL]))
  have hB:Below w.heap.size w (((w.alloc (.cells #[.slice (some ⟨bb,0,none⟩) 19 cap] 61)).alloc (.cells #[.bool false] 4)).alloc (.cells #[.func (.func 53) #[] #[.pointer (some ⟨w.heap.size+1,0,none⟩),.pointer (some ⟨w.heap.size,0,none⟩)]] 112)):=aj (aj (aj (Below.refl _ _) _) _) _
  have hL:oI (((w.alloc (.cells #[.slice (some ⟨bb,0,none⟩) 19 cap] 61)).alloc (.cells #[.bool false] 4)).alloc (.cells #[.func (.func 53) #[] #[.pointer (some ⟨w.heap.size+1,0,none⟩),.pointer (some ⟨w.heap.size,0,none⟩)]] 112)) 53 w.heap.size (w.heap.size+1) (w.heap.size+1+1) 4 61 112 bb 0 19 cap:=by
   refine⟨?_,?_,?_,by omega,by omega,by omega,hc1,hc2⟩
   ·have:=jQ (w.alloc (.cells #[.slice (some ⟨bb,0,none⟩) 19 cap] 61)) (.cells #[.bool false] 4) (.cells #[.func (.func 53) #[] #[.pointer (some ⟨w.heap.size+1,0,none⟩),.pointer (some ⟨w.heap.size,0,none⟩)]] 112)
    rwa[World.size_alloc]at this
   ·rw[Below.heap_alloc _ _ _ (by simp;omega)];exact jQ _ _ _
   ·have:=World.alloc_heap_new ((w.alloc (.cells #[.slice (some ⟨bb,0,none⟩) 19 cap] 61)).alloc (.cells #[.bool false] 4)) (.cells #[.func (.func 53) #[] #[.pointer (some ⟨w.heap.size+1,0,none⟩),.pointer (some ⟨w.heap.size,0,none⟩)]] 112)
    rwa[World.size_alloc,World.size_alloc]at this
  have hsz:(((w.alloc (.cells #[.slice (some ⟨bb,0,none⟩) 19 cap] 61)).alloc (.cells #[.bool false] 4)).alloc (.cells #[.func (.func 53) #[] #[.pointer (some ⟨w.heap.size+1,0,none⟩),.pointer (some ⟨w.heap.size,0,none⟩)]] 112)).heap.size=w.heap.size+3:=by simp
  go_wp2_with fail
  generalize (((w.alloc (.cells #[.slice (some ⟨bb,0,none⟩) 19 cap] 61)).alloc (.cells #[.bool false] 4)).alloc (.cells #[.func (.func 53) #[] #[.pointer (some ⟨w.heap.size+1,0,none⟩),.pointer (some ⟨w.heap.size,0,none⟩)]] 112))=V0 at *
  have HW:=Lib.hid (And.intro hB hT)
  have fV:=hb.later hB
  obtain⟨c9,f9,r9,l9⟩:=aC hL.cut
  have n97:=bf (p:=w.heap.size) (k:=w.heap.size+1+1) (by omega)
  have ZC:=bf (p:=w.heap.size) (k:=bb) (by omega)
  have I9:bb<V0.heap.size:=by omega
  have hkc:∀x:pV (one w.heap.size) V0,(convert 61 9 (.slice (some ⟨bb,1,none⟩) 1 1)).run Tryz.prog x.w=.ok (.string bg) x.w:=fun x=>by
   have h82:BytesAt x.w (some ⟨bb,1,none⟩) [82]:=by
    refine⟨by simp[lim],fun i hi=>?_⟩
    have hi0:i=0:=by simpa using hi
    subst hi0
    have h1:=fV.at 1 (by simp[badL])
    refine⟨bb,1,_,rfl,(x.b.cell I9 ZC).trans h1,82,rfl,rfl⟩
   exact pK (some ⟨bb,1,none⟩) 1 [82] x.w h82
  have hD0:Below V0.heap.size V0 V0.drew:=(Below.refl _ V0).drew
  apply uu (M:=fun(b:Nat) V=>∃n e p,But (one w.heap.size) V0 V∧oI V 53 w.heap.size (w.heap.size+1) (w.heap.size+1+1) 4 61 112 bb 2 17 (cap-2)∧bU V b n e p bg 0 [] [] []∧V0.heap.size≤b∧V0.heap.size≤n∧V0.heap.size≤e∧V0.heap.size≤p)
  case h1=>
   refine mG (one w.heap.size) (But.refl _ V0) (by kernel_rfl) (by kernel_rfl) ?_
   repeat (first|(refine ak (by rfl) ?_)|(refine aP (by rfl) (by rfl) (fun K hK=>?_);go_big_quiet_op;refine hK _ ?_;clear hK K))
   refine aT (by rfl) (by rfl) (fun K hK=>?_)
   go_wp2_with fail
   refine(anQ w.heap.size (w.heap.size+1) (w.heap.size+1+1) bb 0 19 cap _ V0.drew (hL.later hD0) (by omega) (by omega) ((hD0.cell I9).trans (fV.at 0 (by simp[badL]))) I9).mono ?_
   rintro z V1 ⟨rfl,hV1⟩
   have hb1:But (one w.heap.size) V0 V1:=by rw[hV1];exact(But.of_below hD0).trans (ET _ _ _)
   have hL1:oI V1 53 w.heap.size (w.heap.size+1) (w.heap.size+1+1) 4 61 112 bb 1 18 (cap-1):=by rw[hV1];exact(hL.later hD0).next (n:=1) (by omega)
   clear hV1
   dsimp only
   refine hK _ _ (cu hb1) ?_
   clear hK K
   repeat (first|(refine ak (by rfl) ?_)|(refine aP (by rfl) (by rfl) (fun K hK=>?_);go_big_quiet_op;refine hK _ ?_;clear hK K))
   refine aT (by rfl) (by rfl) (fun K hK=>?_)
   go_wp2_with fail
   refine(cut_c w.heap.size (w.heap.size+1) (w.heap.size+1+1) bb 1 18 (cap-1) _ V1 hL1 1 (by omega) (by omega)).mono ?_
   rintro z V2 ⟨rfl,hV2⟩
   have hb2:But (one w.heap.size) V0 V2:=by rw[hV2];exact hb1.trans (ET _ _ _)
   have hL2:oI V2 53 w.heap.size (w.heap.size+1) (w.heap.size+1+1) 4 61 112 bb 2 17 (cap-2):=by rw[hV2];exact hL1.next (n:=1) (by omega)
   clear hV2 hL1 hb1
   dsimp only
   refine hK _ _ (cu hb2) ?_
   clear hK K
   repeat (first|(refine ak (by rfl) ?_)|(refine aP (by rfl) (by rfl) (fun K hK=>?_);go_big_quiet_op;refine hK _ ?_;clear hK K))
   refine aT (by rfl) (by rfl) (fun K hK=>?_)
   go_wp2_with fail
   refine(Gn bg V2 (by simp[lim,ByteArray.size]) AQ).mono ?_
   rintro z V3 ⟨b,n,e,p,rfl,hb3,jR,u1,u2,u3,u4⟩
   have tX:=hb2.trans (But.of_below (S:=one w.heap.size) hb3)
   have hs2:=hb2.size
   dsimp only
   refine hK _ _ (cu tX) ?_
   clear hK K
   repeat (first|(refine ak (by rfl) ?_)|(refine aP (by rfl) (by rfl) (fun K hK=>?_);go_big_quiet_op;refine hK _ ?_;clear hK K))
   refine bQ ?_
   exact⟨by first|rfl|trivial,b,rfl,⟨n,e,p,tX,hL2.later hb3,jR,by omega,by omega,by omega,by omega⟩⟩
  rintro b V ⟨n,e,p,hbu,hL2,jR,u1,u2,u3,u4⟩
  clear c9 f9 r9 l9 hkc hD0 n97
  obtain⟨c8,f8,r8,l8⟩:=aC hL2.short
  have hs:=hbu.size
  have hz0:∀j (h:j<badL.length),2≤j→badL[j]=0:=by decide
  have hz:∀V':World,But (one w.heap.size) V0 V'→∀j,2≤j→j<19→V'.cell? ⟨bb,j,none⟩=some (.int .u8 0):=fun V' hv j h1 h2=>by
   have h3:=(hv.cell I9 ZC).trans (fV.at j (by simpa[badL]using h2))
   rw[hz0 j (by simpa[badL]using h2) h1,Nat.zero_add]at h3
   exact h3
  have vH:=hbu
  have Pv:=hL2
  have ZE:=jR
  clear hbu hL2 jR c8 f8 r8 l8
  go_wp2_with fail
  refine(Po w.heap.size (w.heap.size+1) (w.heap.size+1+1) bb 2 17 (cap-2) _ V Pv 8 (by omega) (by omega) (fun i hi=>hz V vH (2+i) (by omega) (by omega)) (by have:=vH.size;omega)).mono ?_
  rintro z V1 ⟨rfl,hV⟩
  have hbn:But (one w.heap.size) V V1:=by rw[hV];exact ET _ _ _
  have Px:oI V1 53 w.heap.size (w.heap.size+1) (w.heap.size+1+1) 4 61 112 bb 10 9 (cap-10):=by rw[hV];exact Pv.next (n:=8) (by omega)
  have Ja:=vH.trans hbn
  have ZF:=Pq ZE hbn (bf (by omega)) (bf (by omega)) (bf (by omega)) (bf (by omega))
  clear hV hbn Pv vH ZE
  dsimp only
  go_wp2_with fail
  refine(Po w.heap.size (w.heap.size+1) (w.heap.size+1+1) bb 10 9 (cap-10) _ V1 Px 4 (by omega) (by omega) (fun i hi=>hz V1 Ja (10+i) (by omega) (by omega)) (by have:=Ja.size;omega)).mono ?_
  rintro z V2 ⟨rfl,hV⟩
  have hbn:But (one w.heap.size) V1 V2:=by rw[hV];exact ET _ _ _
  have Py:oI V2 53 w.heap.size (w.heap.size+1) (w.heap.size+1+1) 4 61 112 bb 14 5 (cap-14):=by rw[hV];exact Px.next (n:=4) (by omega)
  have Jb:=Ja.trans hbn
  have ZG:=Pq ZF hbn (bf (by omega)) (bf (by omega)) (bf (by omega)) (bf (by omega))
  clear hV hbn Px Ja ZF
  dsimp only
  go_wp2_with fail
  refine wp_loop_rounds 1 ?_
  rw[rounds_succ]
  go_wp2_with fail
  refine(Po w.heap.size (w.heap.size+1) (w.heap.size+1+1) bb 14 5 (cap-14) _ V2 Py 4 (by omega) (by omega) (fun i hi=>hz V2 Jb (14+i) (by omega) (by omega)) (by have:=Jb.size;omega)).mono ?_
  rintro z V3 ⟨rfl,hV⟩
  have hbn:But (one w.heap.size) V2 V3:=by rw[hV];exact ET _ _ _
  have anV:oI V3 53 w.heap.size (w.heap.size+1) (w.heap.size+1+1) 4 61 112 bb 18 1 (cap-18):=by rw[hV];exact Py.next (n:=4) (by omega)
  have anW:=Jb.trans hbn
  have qy:=Pq ZG hbn (bf (by omega)) (bf (by omega)) (bf (by omega)) (bf (by omega))
  clear hV hbn Py Jb ZG
  dsimp only
  go_wp2_with fail
  refine wp_loop_rounds 1 ?_
  rw[rounds_succ]
  obtain⟨d0,d1,d2,d3,d4,g1,gl⟩:=dM qy.box
  obtain⟨c8,f8,r8,l8⟩:=aC anV.short
  have nb8:w.heap.size+1≠b:=by omega
  have hdt:jd (eu bg)=I8:=by decide +kernel
  have ZH:=Lib.hid hdt
  clear hdt
  go_wp2_with fail
  have hB3:Below w.heap.size w V3:=((But.of_below (S:=fun j=>w.heap.size≤j) HW.out.1).trans (anW.mono fun j (hj:j=w.heap.size)=>by omega)).below (Nat.le_refl _) fun j hj=>hj
  have hB4:Below w.heap.size w (V3.setCell ⟨b,1,none⟩ (.int .i64 0)):=hB3.setCell (by show w.heap.size≤b;omega) _
  have hset:=dF (o:=1) (.int .i64 0) qy.box
  rw[uX]at hset
  have hbn:=fK qy.box qy.nm
  have hbe:=fK qy.box qy.em
  have hbp:=fK qy.box qy.pm
  have anX:bU (V3.setCell ⟨b,1,none⟩ (.int .i64 0)) b n e p bg 0 [] [] []:=
   ⟨hset,qy.nm.at (Below.heap_setCell _ _ _ _ hbn.symm),qy.em.at (Below.heap_setCell _ _ _ _ hbe.symm),qy.pm.at (Below.heap_setCell _ _ _ _ hbp.symm),qy.ne⟩
  have hb4:BytesAt (V3.setCell ⟨b,1,none⟩ (.int .i64 0)) (some ⟨bb,0,none⟩) badL:=hb.later hB4
  clear d0 d1 d2 d3 d4 g1 gl c8 f8 r8 l8 hset
  generalize (V3.setCell ⟨b,1,none⟩ (.int .i64 0))=V4 at *
  refine(Zg b n e p bg [] [] [] (eu bg) [] V4 anX lG rfl Me List.Pairwise.nil (by simp) anR (by simp) (by simp) (by decide) (jo hT hB4)).mono ?_
  rintro z V5 ⟨za,rfl,hb5,hd5⟩
  rw[ZH.out]
  have hd6:=hd5.out
  rw[ZH.out]at hd6
  dsimp only
  go_wp2_with fail
  refine(Zp za.a (some ⟨bb,0,none⟩) za.cap cap I8 badL V5 hd6 (hb4.later hb5)).mono ?_
  rintro z V6 ⟨rfl,hb6⟩
  rw[show decide (I8=badL)=false from by decide]
  dsimp only
  go_wp2_with fail
  apply wp_goto
  exact⟨rfl,b,za,rfl,⟨ag (ag hB4 hb5) hb6⟩⟩
 case h2=>
  rintro b za V hV
  go_wp2_with fail
  dsimp only[Exit.noGoto]
  first|go_ret2|refine bodyPost_ret (results_tmp2 (by rfl) _ _ _) (by rfl) ?_
  exact⟨rfl,hV⟩
end Go.Proofs.YtfieenjdcpjmgaaGreatDoor
namespace Go.WW
open Go.RowKit
def sH(a b:List UInt8):Bool:=decide (a=b)
def jO{α:Type}(eq:α→α→Bool):List α→List α→Bool
 | [],[]=>true
 |x::l,y::m=>eq x y&&jO eq l m
 |_,_=>false
theorem EU{α:Type}{eq:α→α→Bool}:∀{a b:List α},a.length≠b.length→jO eq a b=false
 | [],[],h=>absurd rfl h
 | [],_::_,_=>rfl
 |_::_,[],_=>rfl
 |x::l,y::m,h=>by rw[jO,EU (a:=l) (b:=m) (fun e=>h (by simp[e]))];simp
theorem EW{α:Type}{eq:α→α→Bool}:∀{a b:List α} (k:Nat) (ha:k<a.length) (hb:k<b.length),eq a[k] b[k]=false→jO eq a b=false
 | [],_,_,ha,_,_=>by simp at ha
 |_::_,[],_,_,hb,_=>by simp at hb
 |x::l,y::m,0,_,_,h=>by rw[jO];simp at h;simp[h]
 |x::l,y::m,k+1,ha,hb,h=>by rw[jO,EW k (by simpa using ha) (by simpa using hb) (by simpa using h)];simp
theorem EX{α:Type}{eq:α→α→Bool}:∀{a b:List α},a.length=b.length→(∀k (ha:k<a.length) (hb:k<b.length),eq a[k] b[k]=true)→jO eq a b=true
 | [],[],_,_=>rfl
 | [],_::_,h,_=>by simp at h
 |_::_,[],h,_=>by simp at h
 |x::l,y::m,h,hk=>by
  rw[jO,EX (a:=l) (b:=m) (by simpa using h) (fun k ha hb=>hk (k+1) (by simpa using ha) (by simpa using hb))]
  have:=hk 0 (by simp) (by simp)
  simpa using this
end Go.WW
namespace Go.Proofs.YtfieenjdcpjmgaaGreatDoor
open Go.RowKit Go.WW
def jP(a b:bn):Bool:=(a.version == b.version)&&(jO sameKey a.keys b.keys&&((a.df.toList == b.df.toList)&&((a.dH == b.dH)&&(a.created == b.created))))
theorem ZI(s t:Sl)(p q:Key)(w:World)(hp:kD w s p)(hq:kD w t q):Calls Tryz.prog 134 #[.agg (bW s p),.agg (bW t q)] w fun e w'=>e=.returned (.bool (sameKey p q))∧Below w.heap.size w w':=by
 have hB:Below w.heap.size w ((w.alloc (.cells (bW s p) 69)).alloc (.cells (bW t q) 69)):=((Below.refl _ _).alloc (Nat.le_refl _) _).alloc (by simp) _
 have k1:=pK s.a s.cap p.bytes _ (BytesAt.later hB hp)
 have k2:=pK t.a t.cap q.bytes _ (BytesAt.later hB hq)
 obtain⟨S1,hS1⟩:∃S,S=(ByteArray.mk p.bytes.toArray):=⟨_,rfl⟩
 obtain⟨S2,hS2⟩:∃S,S=(ByteArray.mk q.bytes.toArray):=⟨_,rfl⟩
 rw[←hS1]at k1
 rw[←hS2]at k2
 have HD:=Lib.hid (show(S1.toList == S2.toList)=decide (p.bytes=q.bytes) by
  rw[hS1,hS2,ByteArray.toList_eq,ByteArray.toList_eq]
  by_cases h:p.bytes=q.bytes
  ·rw[h];simp
  ·simp[h])
 clear hS1 hS2
 cases h1:(p.profile == q.profile)
 ·have HN:=Lib.hid (show sameKey p q=false by simp[sameKey,h1])
  rw[HN.out]
  go_enter Tryz.func134,Tryz.ntmps134
  go_wp2_with fail
  go_ret
  exact⟨rfl,hB⟩
 cases h2:(p.version == q.version)
 ·have HN:=Lib.hid (show sameKey p q=false by simp[sameKey,h2])
  rw[HN.out]
  go_enter Tryz.func134,Tryz.ntmps134
  go_wp2_with fail
  go_ret
  exact⟨rfl,hB⟩
 ·have HN:=Lib.hid (show sameKey p q=(S1.toList == S2.toList) by rw[HD.out];simp[sameKey,h1,h2])
  rw[HN.out]
  go_enter Tryz.func134,Tryz.ntmps134
  go_wp2_with fail
  go_ret
  exact⟨rfl,hB⟩
theorem Pz(a1 a2:Option Addr)(c d:Nat)(xs ys:List az)(w:World)(h1:fF w a1 xs)(h2:fF w a2 ys):Calls Tryz.prog 71 #[.slice a1 xs.length c,.slice a2 ys.length d] w fun e w'=>e=.returned (.bool (jO aX xs ys))∧Below w.heap.size w w':=by
 have l1:xs.length≤4294967000:=h1.1
 have l2:ys.length≤4294967000:=h2.1
 by_cases hn:xs.length=ys.length
 ·have hne:((xs.length:Int) != (ys.length:Int))=false:=by simp[hn]
  by_cases h0:xs.length=0
  ·obtain rfl:xs=[]:=List.eq_nil_of_length_eq_zero h0
   obtain rfl:ys=[]:=List.eq_nil_of_length_eq_zero (by simpa using hn.symm)
   go_enter Tryz.func71,Tryz.ntmps71
   go_wp2_with fail
   refine wp_loop_rounds 1 ?_
   rw[rounds_succ]
   go_wp2_with fail
   go_ret
   exact⟨rfl,Below.refl _ _⟩
  rcases aV.addr h1 with e|⟨b1,o1,rfl,hb1⟩
  ·exact absurd e h0
  rcases aV.addr h2 with e|⟨b2,o2,rfl,hb2⟩
  ·exact absurd (hn.trans e) h0
  have HN:=Lib.hid hn
  clear hn h0
  go_enter Tryz.func71,Tryz.ntmps71
  go_wp2_with fail
  go_loopw [5] (fun i wr=>Below w.heap.size w wr∧∃k:Nat,k≤xs.length∧i=.int .i64 k∧Hid (∀j (ha:j<xs.length) (hb:j<ys.length),j<k→aX xs[j] ys[j]=true)) (fun i _=>xs.length-(intOf i).toNat)
  case atStart=>exact⟨Below.refl _ _,0,Nat.zero_le _,rfl,fun j _ _ h=>absurd h (Nat.not_lt_zero _)⟩
  case round=>
   obtain⟨hbr,k,hk,rfl,hall⟩:=hrel
   by_cases hlt:k<xs.length
   ·have hlt2:k<ys.length:=by have:=HN.out;omega
    have hki:(k:Int)<(xs.length:Int):=by omega
    have PD:(k:Int)<(ys.length:Int):=by omega
    obtain⟨t1,hc1,hp1⟩:=h1.at k hlt
    obtain⟨t2,hc2,hp2⟩:=h2.at k hlt2
    obtain⟨hcc,aS,hrr⟩:=aY hbr
    have hw1:=hb1
    have hw2:=hb2
    cases he:aX xs[k] ys[k]
    ·have HF:=Lib.hid (EW (eq:=aX) k hlt hlt2 he)
     go_wp2_with fail
     refine dO hbr (by kernel_rfl) (by kernel_rfl) ?_
     repeat (go_big_quiet_step ((go_at_call 27;rename_i xw;exact Calls.gK (he▸oL _ _ _ _ _ (hp1.later (by exact xw.b)) (hp2.later (by exact xw.b))))))
     refine wpQuiet_nil ?_
     intro w2 fH
     go_wp2_with fail
     go_ret
     exact⟨by rw[HF.out];rfl,fH⟩
    ·have HS:=Lib.hid (show ∀j (ha:j<xs.length) (hb:j<ys.length),j<k+1→aX xs[j] ys[j]=true from fun j ha hb hj=>by
      by_cases e:j=k
      ·subst e;exact he
      ·exact hall.out j ha hb (by omega))
     go_wp2_with fail
     refine dO hbr (by kernel_rfl) (by kernel_rfl) ?_
     repeat (go_big_quiet_step ((go_at_call 27;rename_i xw;exact Calls.gK (he▸oL _ _ _ _ _ (hp1.later (by exact xw.b)) (hp2.later (by exact xw.b))))))
     refine wpQuiet_nil ?_
     intro w2 fH
     go_wp2_with fail
     go_roundw
     case rel=>exact⟨fH,k+1,by omega,by go_num,HS.out⟩
     case measure=>simp[intOf];omega
   ·have HS:=Lib.hid (EX (eq:=aX) HN.out (fun j ha hb=>hall.out j ha hb (by omega)))
    go_wp2_with fail
    go_ret
    exact⟨by rw[HS.out];rfl,hbr⟩
 ·have hne:((xs.length:Int) != (ys.length:Int))=true:=by simp;omega
  have HF:=Lib.hid (EU (eq:=aX) hn)
  clear hn
  go_enter Tryz.func71,Tryz.ntmps71
  go_wp2_with fail
  go_ret
  exact⟨by rw[HF.out];rfl,Below.refl _ _⟩
theorem ZJ(s t:Sl)(p q:bn)(w:World)(hp:jq w s p)(hq:jq w t q):Calls Tryz.prog 70 #[.agg (aZ s p),.agg (aZ t q)] w fun e w'=>e=.returned (.bool (jP p q))∧Below w.heap.size w w':=by
 have hB:Below w.heap.size w ((w.alloc (.cells (aZ s p) 67)).alloc (.cells (aZ t q) 67)):=((Below.refl _ _).alloc (Nat.le_refl _) _).alloc (by simp) _
 obtain⟨R,hR⟩:∃R,R=jP p q:=⟨_,rfl⟩
 rw[←hR]
 have HR:=Lib.hid hR
 clear hR
 have l1:p.keys.length≤4294967000:=hp.1.1
 have l2:q.keys.length≤4294967000:=hq.1.1
 go_enter Tryz.func70,Tryz.ntmps70
 cases g0:(p.version == q.version)
 ·have g0':(p.version != q.version)=true:=by simp only[bne,g0];rfl
  have HN:=Lib.hid (show jP p q=false by simp[jP,g0])
  go_wp2_with fail
  go_ret
  exact⟨by rw[HR.out,HN.out];rfl,hB⟩
 have g0':(p.version != q.version)=false:=by simp only[bne,g0];rfl
 cases g1:(p.df.toList == q.df.toList)
 ·have g1':(p.df.toList != q.df.toList)=true:=by simp only[bne,g1];rfl
  have HN:=Lib.hid (show jP p q=false by simp[jP,g1])
  go_wp2_with fail
  go_ret
  exact⟨by rw[HR.out,HN.out];rfl,hB⟩
 have g1':(p.df.toList != q.df.toList)=false:=by simp only[bne,g1];rfl
 cases g2:(p.dH == q.dH)
 ·have g2':(p.dH != q.dH)=true:=by simp only[bne,g2];rfl
  have HN:=Lib.hid (show jP p q=false by simp[jP,g2])
  go_wp2_with fail
  go_ret
  exact⟨by rw[HR.out,HN.out];rfl,hB⟩
 have g2':(p.dH != q.dH)=false:=by simp only[bne,g2];rfl
 cases g3:(p.created == q.created)
 ·have g3':(p.created != q.created)=true:=by simp only[bne,g3];rfl
  have HN:=Lib.hid (show jP p q=false by simp[jP,g3])
  go_wp2_with fail
  go_ret
  exact⟨by rw[HR.out,HN.out];rfl,hB⟩
 have g3':(p.created != q.created)=false:=by simp only[bne,g3];rfl
 by_cases hn:p.keys.length=q.keys.length
 ·have hne:((p.keys.length:Int) != (q.keys.length:Int))=false:=by simp[hn]
  have HL:=Lib.hid (show jP p q=jO sameKey p.keys q.keys by simp[jP,g0,g1,g2,g3])
  have HN:=Lib.hid hn
  clear hn
  go_wp2_with fail
  clear g0 g1 g2 g3 g0' g1' g2' g3'
  go_loopw [5] (fun i wr=>Below ((w.alloc (.cells (aZ s p) 67)).alloc (.cells (aZ t q) 67)).heap.size ((w.alloc (.cells (aZ s p) 67)).alloc (.cells (aZ t q) 67)) wr∧∃k:Nat,k≤p.keys.length∧i=.int .i64 k∧Hid (∀j (ha:j<p.keys.length) (hb:j<q.keys.length),j<k→sameKey p.keys[j] q.keys[j]=true)) (fun i _=>p.keys.length-(intOf i).toNat)
  case atStart=>exact⟨Below.refl _ _,0,Nat.zero_le _,rfl,fun j _ _ h=>absurd h (Nat.not_lt_zero _)⟩
  case round=>
   obtain⟨hbr,k,hk,rfl,hall⟩:=hrel
   obtain⟨hcc,aS,hrr⟩:=aY hbr
   have hsz:w.heap.size+1<wr.heap.size:=by have:=hbr.size;simp at this;omega
   have hsz0:w.heap.size<wr.heap.size:=by omega
   by_cases hlt:k<p.keys.length
   ·have hlt2:k<q.keys.length:=by have:=HN.out;omega
    have hki:(k:Int)<(p.keys.length:Int):=by omega
    have PD:(k:Int)<(q.keys.length:Int):=by omega
    obtain⟨b1,o1,t1,ha1,hc1,hp1⟩:=hp.1.get k hlt
    obtain⟨b2,o2,t2,ha2,hc2,hp2⟩:=hq.1.get k hlt2
    have hb1:b1<w.heap.size:=gG hc1
    have hb1':b1<w.heap.size+1+1:=by omega
    have hb2:b2<w.heap.size:=gG hc2
    have hb2':b2<w.heap.size+1+1:=by omega
    cases he:sameKey p.keys[k] q.keys[k]
    ·have HF:=Lib.hid (EW (eq:=sameKey) k hlt hlt2 he)
     go_wp2_with fail
     refine dO hbr (by kernel_rfl) (by kernel_rfl) ?_
     repeat (go_big_quiet_step ((go_at_call 134;rename_i xw;exact Calls.gK (he▸ZI _ _ _ _ _ (kD.later (hB.trans (xw.b.mono (by simp;omega))) hp1) (kD.later (hB.trans (xw.b.mono (by simp;omega))) hp2)))))
     refine wpQuiet_nil ?_
     intro w2 fH
     go_wp2_with fail
     go_ret
     exact⟨by rw[HR.out,HL.out,HF.out];rfl,hB.trans (fH.mono (by simp;omega))⟩
    ·have HS:=Lib.hid (show ∀j (ha:j<p.keys.length) (hb:j<q.keys.length),j<k+1→sameKey p.keys[j] q.keys[j]=true from fun j ha hb hj=>by
      by_cases e:j=k
      ·subst e;exact he
      ·exact hall.out j ha hb (by omega))
     go_wp2_with fail
     refine dO hbr (by kernel_rfl) (by kernel_rfl) ?_
     repeat (go_big_quiet_step ((go_at_call 134;rename_i xw;exact Calls.gK (he▸ZI _ _ _ _ _ (kD.later (hB.trans (xw.b.mono (by simp;omega))) hp1) (kD.later (hB.trans (xw.b.mono (by simp;omega))) hp2)))))
     refine wpQuiet_nil ?_
     intro w2 fH
     go_wp2_with fail
     go_roundw
     case rel=>exact⟨fH,k+1,by omega,by go_num,HS.out⟩
     case measure=>simp[intOf];omega
   ·have HS:=Lib.hid (EX (eq:=sameKey) HN.out (fun j ha hb=>hall.out j ha hb (by omega)))
    go_wp2_with fail
    go_ret
    exact⟨by rw[HR.out,HL.out,HS.out];rfl,hB.trans (hbr.mono (by simp;omega))⟩
 ·have hne:((p.keys.length:Int) != (q.keys.length:Int))=true:=by simp;omega
  have HF:=Lib.hid (show jP p q=false by simp[jP,EU (eq:=sameKey) hn])
  clear hn
  go_wp2_with fail
  go_ret
  exact⟨by rw[HR.out,HF.out];rfl,hB⟩
def iL(d f:Entry):Bool:=(aX d.name f.name)&&((jO aX d.aliases f.aliases)&&((d.attrs == f.attrs)&&((d.dP == f.dP)&&((jO jP d.keys f.keys)&&((d.aO.toList == f.aO.toList)&&((d.ik == f.ik)&&((d.iq == f.iq)&&((d.gQ == f.gQ)&&((d.gU == f.gU)&&((d.fails == f.fails)&&((d.eY == f.eY)&&((d.gy == f.gy)&&((jO aX d.targets f.targets)&&((jO aX d.bu f.bu)&&(jO sH d.history f.history)))))))))))))))
theorem PE(p:az):aX p p=true:=by simp[aX]
theorem EY{α:Type}{eq:α→α→Bool}(h:∀x,eq x x=true):∀l,jO eq l l=true
 | []=>rfl
 |x::l=>by rw[jO,h x,EY h l];rfl
theorem sameKey_self(k:Key):sameKey k k=true:=by simp[sameKey]
theorem anY(k:bn):jP k k=true:=by simp[jP,EY sameKey_self]
theorem anZ(d:Entry):iL d d=true:=by simp[iL,PE,EY PE,EY anY,EY (eq:=sH) (fun x=>by simp[sH])]
theorem an0(r t:aN)(d f:Entry)(w:World)(hd:bJ w r d)(hf:bJ w t f):Calls Tryz.prog 26 #[.agg (ae r d),.agg (ae t f)] w fun e w'=>e=.returned (.bool (iL d f))∧Below w.heap.size w w':=by
 have hB:Below w.heap.size w ((w.alloc (.cells (ae r d) 47)).alloc (.cells (ae t f) 47)):=((Below.refl _ _).alloc (Nat.le_refl _) _).alloc (by simp) _
 obtain⟨R,hR⟩:∃R,R=iL d f:=⟨_,rfl⟩
 rw[←hR]
 have HR:=Lib.hid hR
 clear hR
 have l1:d.keys.length≤4294967000:=hd.keys.1
 have l2:f.keys.length≤4294967000:=hf.keys.1
 have l3:d.history.length≤4294967000:=hd.history.1
 have l4:f.history.length≤4294967000:=hf.history.1
 go_enter Tryz.func26,Tryz.ntmps26
 by_cases hn:d.keys.length=f.keys.length
 case neg=>
  have hne:((d.keys.length:Int) != (f.keys.length:Int))=true:=by simp;omega
  have HF:=Lib.hid (show iL d f=false by simp[iL,EU (eq:=jP) hn])
  clear hn
  go_wp2_with fail
  go_ret
  exact⟨by rw[HR.out,HF.out];rfl,hB⟩
 have hne:((d.keys.length:Int) != (f.keys.length:Int))=false:=by simp[hn]
 by_cases hm:d.history.length=f.history.length
 case neg=>
  have hme:((d.history.length:Int) != (f.history.length:Int))=true:=by simp;omega
  have HF:=Lib.hid (show iL d f=false by simp[iL,EU (eq:=sH) hm])
  clear hn hm
  go_wp2_with fail
  go_ret
  exact⟨by rw[HR.out,HF.out];rfl,hB⟩
 have hme:((d.history.length:Int) != (f.history.length:Int))=false:=by simp[hm]
 have HN:=Lib.hid hn
 have HM:=Lib.hid hm
 clear hn hm
 go_wp2_with fail
 clear hne hme
 go_loopw [5] (fun i wr=>Below ((w.alloc (.cells (ae r d) 47)).alloc (.cells (ae t f) 47)).heap.size ((w.alloc (.cells (ae r d) 47)).alloc (.cells (ae t f) 47)) wr∧∃k:Nat,k≤d.keys.length∧i=.int .i64 k∧Hid (∀j (ha:j<d.keys.length) (hb:j<f.keys.length),j<k→jP d.keys[j] f.keys[j]=true)) (fun i _=>d.keys.length-(intOf i).toNat)
 case atStart=>exact⟨Below.refl _ _,0,Nat.zero_le _,rfl,fun j _ _ h=>absurd h (Nat.not_lt_zero _)⟩
 case round=>
  obtain⟨hbr,k,hk,rfl,hall⟩:=hrel
  obtain⟨hcc,aS,hrr⟩:=aY hbr
  have hsz:w.heap.size+1<wr.heap.size:=by have:=hbr.size;simp at this;omega
  have hsz0:w.heap.size<wr.heap.size:=by omega
  by_cases hlt:k<d.keys.length
  ·have hlt2:k<f.keys.length:=by have:=HN.out;omega
   have hki:(k:Int)<(d.keys.length:Int):=by omega
   have PD:(k:Int)<(f.keys.length:Int):=by omega
   obtain⟨b1,o1,t1,ha1,hc1,hp1⟩:=hd.keys.get k hlt
   obtain⟨b2,o2,t2,ha2,hc2,hp2⟩:=hf.keys.get k hlt2
   have hb1:b1<w.heap.size:=gG hc1
   have hb1':b1<w.heap.size+1+1:=by omega
   have hb2:b2<w.heap.size:=gG hc2
   have hb2':b2<w.heap.size+1+1:=by omega
   cases he:jP d.keys[k] f.keys[k]
   ·have HF:=Lib.hid (show iL d f=false by simp[iL,EW (eq:=jP) k hlt hlt2 he])
    go_wp2_with fail
    refine dO hbr (by kernel_rfl) (by kernel_rfl) ?_
    repeat (go_big_quiet_step ((go_at_call 70;rename_i xw;exact Calls.gK (he▸ZJ _ _ _ _ _ (jq.later (hB.trans (xw.b.mono (by simp;omega))) hp1) (jq.later (hB.trans (xw.b.mono (by simp;omega))) hp2)))))
    refine wpQuiet_nil ?_
    intro w2 fH
    go_wp2_with fail
    go_ret
    exact⟨by rw[HR.out,HF.out];rfl,hB.trans (fH.mono (by simp;omega))⟩
   ·have HS:=Lib.hid (show ∀j (ha:j<d.keys.length) (hb:j<f.keys.length),j<k+1→jP d.keys[j] f.keys[j]=true from fun j ha hb hj=>by
     by_cases e:j=k
     ·subst e;exact he
     ·exact hall.out j ha hb (by omega))
    go_wp2_with fail
    refine dO hbr (by kernel_rfl) (by kernel_rfl) ?_
    repeat (go_big_quiet_step ((go_at_call 70;rename_i xw;exact Calls.gK (he▸ZJ _ _ _ _ _ (jq.later (hB.trans (xw.b.mono (by simp;omega))) hp1) (jq.later (hB.trans (xw.b.mono (by simp;omega))) hp2)))))
    refine wpQuiet_nil ?_
    intro w2 fH
    go_wp2_with fail
    go_roundw
    case rel=>exact⟨fH,k+1,by omega,by go_num,HS.out⟩
    case measure=>simp[intOf];omega
  have HK:=Lib.hid (EX (eq:=jP) HN.out (fun j ha hb=>hall.out j ha hb (by omega)))
  clear hall
  go_wp2_with fail
  clear hcc aS hrr hsz hsz0 hlt hk l1 l2
  have jE:=hbr
  clear hbr
  obtain⟨wo,hwo⟩:∃wo:World,wo=wr:=⟨_,rfl⟩
  subst hwo
  go_loopw [6] (fun i wr=>Below ((w.alloc (.cells (ae r d) 47)).alloc (.cells (ae t f) 47)).heap.size ((w.alloc (.cells (ae r d) 47)).alloc (.cells (ae t f) 47)) wr∧∃k:Nat,k≤d.history.length∧i=.int .i64 k∧Hid (∀j (ha:j<d.history.length) (hb:j<f.history.length),j<k→sH d.history[j] f.history[j]=true)) (fun i _=>d.history.length-(intOf i).toNat)
  case atStart=>exact⟨jE,0,Nat.zero_le _,rfl,fun j _ _ h=>absurd h (Nat.not_lt_zero _)⟩
  case round=>
   obtain⟨hbr,k,hk,rfl,hall⟩:=hrel
   obtain⟨hcc,aS,hrr⟩:=aY hbr
   have hsz:w.heap.size+1<wr.heap.size:=by have:=hbr.size;simp at this;omega
   have hsz0:w.heap.size<wr.heap.size:=by omega
   by_cases hlt:k<d.history.length
   ·have hlt2:k<f.history.length:=by have:=HM.out;omega
    have hki:(k:Int)<(d.history.length:Int):=by omega
    have PD:(k:Int)<(f.history.length:Int):=by omega
    obtain⟨b1,o1,t1,ha1,hc1,hp1⟩:=hd.history.get k hlt
    obtain⟨b2,o2,t2,ha2,hc2,hp2⟩:=hf.history.get k hlt2
    have hb1:b1<w.heap.size:=World.block_lt_of_cell? w _ hc1
    have hb1':b1<w.heap.size+1+1:=by omega
    have hb2:b2<w.heap.size:=World.block_lt_of_cell? w _ hc2
    have hb2':b2<w.heap.size+1+1:=by omega
    have k1:∀x:Later ((w.alloc (.cells (ae r d) 47)).alloc (.cells (ae t f) 47)),(convert 61 9 (.slice t1.a d.history[k].length t1.cap)).run Tryz.prog x.w=.ok (.string ⟨d.history[k].toArray⟩) x.w:=fun x=>pK t1.a t1.cap d.history[k] _ (BytesAt.later (hB.trans (x.b.mono (by simp;omega))) hp1)
    have k2:∀x:Later ((w.alloc (.cells (ae r d) 47)).alloc (.cells (ae t f) 47)),(convert 61 9 (.slice t2.a f.history[k].length t2.cap)).run Tryz.prog x.w=.ok (.string ⟨f.history[k].toArray⟩) x.w:=fun x=>pK t2.a t2.cap f.history[k] _ (BytesAt.later (hB.trans (x.b.mono (by simp;omega))) hp2)
    obtain⟨S1,hS1⟩:∃S,S=(ByteArray.mk d.history[k].toArray):=⟨_,rfl⟩
    obtain⟨S2,hS2⟩:∃S,S=(ByteArray.mk f.history[k].toArray):=⟨_,rfl⟩
    rw[←hS1]at k1
    rw[←hS2]at k2
    have hD:(S1.toList == S2.toList)=sH d.history[k] f.history[k]:=by
     rw[hS1,hS2,ByteArray.toList_eq,ByteArray.toList_eq]
     unfold sH
     by_cases h:d.history[k]=f.history[k]
     ·rw[h];simp
     ·simp[h]
    clear hS1 hS2
    cases he:sH d.history[k] f.history[k]
    ·rw[he]at hD
     have hD':(S1.toList != S2.toList)=true:=by simp only[bne,hD];rfl
     have HF:=Lib.hid (show iL d f=false by simp[iL,EW (eq:=sH) k hlt hlt2 he])
     clear he
     go_wp2_with fail
     refine dO hbr (by kernel_rfl) (by kernel_rfl) ?_
     repeat (go_big_quiet_step (fail))
     refine wpQuiet_nil ?_
     intro w2 fH
     go_wp2_with fail
     go_ret
     exact⟨by rw[HR.out,HF.out];rfl,hB.trans (fH.mono (by simp;omega))⟩
    ·rw[he]at hD
     have hD':(S1.toList != S2.toList)=false:=by simp only[bne,hD];rfl
     have HS:=Lib.hid (show ∀j (ha:j<d.history.length) (hb:j<f.history.length),j<k+1→sH d.history[j] f.history[j]=true from fun j ha hb hj=>by
      by_cases e:j=k
      ·subst e;exact he
      ·exact hall.out j ha hb (by omega))
     clear he
     go_wp2_with fail
     refine dO hbr (by kernel_rfl) (by kernel_rfl) ?_
     repeat (go_big_quiet_step (fail))
     refine wpQuiet_nil ?_
     intro w2 fH
     go_wp2_with fail
     go_roundw
     case rel=>first|exact⟨fH,k+1,by omega,by go_num,HS.out⟩|((repeat apply Exists.intro);exact⟨⟨fH,k+1,by omega,by go_num,HS.out⟩,rfl⟩)
     case measure=>simp[intOf];omega
   have HH:=Lib.hid (EX (eq:=sH) HM.out (fun j ha hb=>hall.out j ha hb (by omega)))
   clear hall hk l3 l4
   have hb0:=hbr
   clear hbr
   have HB0:=Lib.hid (ag hB hb0)
   cases g0:(d.attrs == f.attrs)
   ·have g0':(d.attrs != f.attrs)=true:=by simp only[bne,g0];rfl
    have HF:=Lib.hid (show iL d f=false by simp[iL,g0])
    go_wp2_with fail
    go_ret
    exact⟨by rw[HR.out,HF.out];rfl,HB0.out⟩
   have g0':(d.attrs != f.attrs)=false:=by simp only[bne,g0];rfl
   cases g1:(d.dP == f.dP)
   ·have g1':(d.dP != f.dP)=true:=by simp only[bne,g1];rfl
    have HF:=Lib.hid (show iL d f=false by simp[iL,g1])
    go_wp2_with fail
    go_ret
    exact⟨by rw[HR.out,HF.out];rfl,HB0.out⟩
   have g1':(d.dP != f.dP)=false:=by simp only[bne,g1];rfl
   cases g2:(d.aO.toList == f.aO.toList)
   ·have g2':(d.aO.toList != f.aO.toList)=true:=by simp only[bne,g2];rfl
    have HF:=Lib.hid (show iL d f=false by simp[iL,g2])
    go_wp2_with fail
    go_ret
    exact⟨by rw[HR.out,HF.out];rfl,HB0.out⟩
   have g2':(d.aO.toList != f.aO.toList)=false:=by simp only[bne,g2];rfl
   cases g3:(d.ik == f.ik)
   ·have g3':(d.ik != f.ik)=true:=by simp only[bne,g3];rfl
    have HF:=Lib.hid (show iL d f=false by simp[iL,g3])
    go_wp2_with fail
    go_ret
    exact⟨by rw[HR.out,HF.out];rfl,HB0.out⟩
   have g3':(d.ik != f.ik)=false:=by simp only[bne,g3];rfl
   cases g4:(d.iq == f.iq)
   ·have g4':(d.iq != f.iq)=true:=by simp only[bne,g4];rfl
    have HF:=Lib.hid (show iL d f=false by simp[iL,g4])
    go_wp2_with fail
    go_ret
    exact⟨by rw[HR.out,HF.out];rfl,HB0.out⟩
   have g4':(d.iq != f.iq)=false:=by simp only[bne,g4];rfl
   cases g5:(d.gQ == f.gQ)
   ·have g5':(d.gQ != f.gQ)=true:=by simp only[bne,g5];rfl
    have HF:=Lib.hid (show iL d f=false by simp[iL,g5])
    go_wp2_with fail
    go_ret
    exact⟨by rw[HR.out,HF.out];rfl,HB0.out⟩
   have g5':(d.gQ != f.gQ)=false:=by simp only[bne,g5];rfl
   cases g6:(d.gU == f.gU)
   ·have g6':(d.gU != f.gU)=true:=by simp only[bne,g6];rfl
    have HF:=Lib.hid (show iL d f=false by simp[iL,g6])
    go_wp2_with fail
    go_ret
    exact⟨by rw[HR.out,HF.out];rfl,HB0.out⟩
   have g6':(d.gU != f.gU)=false:=by simp only[bne,g6];rfl
   have HT:=Lib.hid (show(aX d.name f.name&&(jO aX d.aliases f.aliases&&((d.fails == f.fails)&&((d.eY == f.eY)&&((d.gy == f.gy)&&(jO aX d.targets f.targets&&jO aX d.bu f.bu))))))=iL d f by simp[iL,HK.out,HH.out,g0,g1,g2,g3,g4,g5,g6])
   clear HK HH
   go_wp2_with fail
   refine(oL r.parts t.parts d.name f.name _ (hd.name.later HB0.out) (hf.name.later HB0.out)).mono ?_
   rintro e w1 ⟨rfl,hk1⟩
   have hb1:=ag hb0 hk1
   clear hk1 hcc aS hrr hsz0 hsz
   have HB1:=Lib.hid (ag hB hb1)
   obtain⟨hcc,aS,hrr⟩:=aY hb1
   have hsz:w.heap.size+1<w1.heap.size:=by have:=hb1.size;simp at this;omega
   have hsz0:w.heap.size<w1.heap.size:=by omega
   cases q0:(aX d.name f.name)
   ·go_wp2_with fail
    go_ret
    exact⟨by rw[HR.out,←HT.out];simp[q0],HB1.out⟩
   go_wp2_with fail
   refine(Pz r.aliases.a t.aliases.a r.aliases.cap t.aliases.cap d.aliases f.aliases _ (hd.aliases.later HB1.out) (hf.aliases.later HB1.out)).mono ?_
   rintro e w2 ⟨rfl,hk2⟩
   have hb2:=ag hb1 hk2
   clear hk2 hcc aS hrr hsz0 hsz
   have HB2:=Lib.hid (ag hB hb2)
   obtain⟨hcc,aS,hrr⟩:=aY hb2
   have hsz:w.heap.size+1<w2.heap.size:=by have:=hb2.size;simp at this;omega
   have hsz0:w.heap.size<w2.heap.size:=by omega
   cases q1:(jO aX d.aliases f.aliases)
   ·go_wp2_with fail
    go_ret
    exact⟨by rw[HR.out,←HT.out];simp[q0,q1],HB2.out⟩
   cases q2:(d.fails == f.fails)
   ·go_wp2_with fail
    go_ret
    exact⟨by rw[HR.out,←HT.out];simp[q0,q1,q2],HB2.out⟩
   cases q3:(d.eY == f.eY)
   ·go_wp2_with fail
    go_ret
    exact⟨by rw[HR.out,←HT.out];simp[q0,q1,q2,q3],HB2.out⟩
   cases q4:(d.gy == f.gy)
   ·go_wp2_with fail
    go_ret
    exact⟨by rw[HR.out,←HT.out];simp[q0,q1,q2,q3,q4],HB2.out⟩
   go_wp2_with fail
   refine(Pz r.targets.a t.targets.a r.targets.cap t.targets.cap d.targets f.targets _ (hd.targets.later HB2.out) (hf.targets.later HB2.out)).mono ?_
   rintro e w3 ⟨rfl,hk3⟩
   have hb3:=ag hb2 hk3
   clear hk3 hcc aS hrr hsz0 hsz
   have HB3:=Lib.hid (ag hB hb3)
   obtain⟨hcc,aS,hrr⟩:=aY hb3
   have hsz:w.heap.size+1<w3.heap.size:=by have:=hb3.size;simp at this;omega
   have hsz0:w.heap.size<w3.heap.size:=by omega
   cases q5:(jO aX d.targets f.targets)
   ·go_wp2_with fail
    go_ret
    exact⟨by rw[HR.out,←HT.out];simp[q0,q1,q2,q3,q4,q5],HB3.out⟩
   go_wp2_with fail
   refine(Pz r.bu.a t.bu.a r.bu.cap t.bu.cap d.bu f.bu _ (hd.bu.later HB3.out) (hf.bu.later HB3.out)).mono ?_
   rintro e w4 ⟨rfl,hk4⟩
   have hb4:=ag hb3 hk4
   clear hk4 hcc aS hrr hsz0 hsz
   have HB4:=Lib.hid (ag hB hb4)
   obtain⟨hcc,aS,hrr⟩:=aY hb4
   have hsz:w.heap.size+1<w4.heap.size:=by have:=hb4.size;simp at this;omega
   have hsz0:w.heap.size<w4.heap.size:=by omega
   go_wp2_with fail
   go_ret
   exact⟨by rw[HR.out,←HT.out];simp[q0,q1,q2,q3,q4,q5],HB4.out⟩
def aq5(p q:ah):Bool:=(p.name.toList == q.name.toList)&&((p.length == q.length)&&((p.classes == q.classes)&&((p.distinct == q.distinct)&&((p.history == q.history)&&((p.iy == q.iy)&&((p.dY == q.dY)&&((p.fails == q.fails)&&((p.window == q.window)&&(p.lock == q.lock)))))))))
end Go.Proofs.YtfieenjdcpjmgaaGreatDoor
namespace Go.WW
open Go.RowKit
theorem an3{d:Entry}{q:az}:jh d q=true↔∃q'∈iI d,aX q' q=true:=by
 unfold jh iI
 simp only[Bool.or_eq_true,List.any_eq_true,List.mem_cons]
 constructor
 ·rintro(h|h)
  iterate 2
   ·first|exact⟨_,.inl rfl,h⟩|(obtain⟨x,hx,e⟩:=h;exact⟨x,.inr hx,e⟩)
 ·rintro⟨q',rfl|h,e⟩
  ·first|exact .inl e|exact .inr e
  ·first|exact .inl ⟨q',h,e⟩|exact .inr ⟨q',h,e⟩
theorem ZK{d:Entry}{q:az}(hd:bT d=true):jh d q=true↔∃q'∈iI d,eP q=textOf q':=by
 rw[an3]
 constructor
 ·rintro⟨q',hq',h⟩;exact⟨q',hq',((DK (rJ hd _ hq')).2 h).symm⟩
 ·rintro⟨q',hq',h⟩;exact⟨q',hq',(DK (rJ hd _ hq')).1 h.symm⟩
theorem an4{D:Db}{X:List EE}(hD:D.entries=X.map (·.2))(f:Entry→Bool) :
  (idxOf f D.entries=-1∧∀x∈X,f x.2=false)∨∃i,∃hi:i<X.length,idxOf f D.entries=(i:Int)∧f X[i].2=true:=by
 rw[hD]
 unfold idxOf
 cases hf:(X.map (·.2)).findIdx? f with
 |none=>
  refine .inl ⟨rfl,fun x hx=>?_⟩
  exact(List.findIdx?_eq_none_iff.1 hf) x.2 (List.mem_map.2 ⟨x,hx,rfl⟩)
 |some i=>
  obtain⟨hi,h1,-⟩:=List.findIdx?_eq_some_iff_getElem.1 hf
  exact .inr ⟨i,by simpa using hi,rfl,by simpa using h1⟩
theorem fJ.found{D:Db}{X:List EE}{NL:List (ByteArray×ByteArray)}{E:List EE}{P:List ah}(h:fJ D X NL E P)(q:az) :
  (idxOf (fun d=>jh d q) D.entries=-1∧∀o,(eP q,o)∉NL)∨∃i,∃hi:i<X.length,idxOf (fun d=>jh d q) D.entries=(i:Int)∧∃x0∈E,x0.2=X[i].2∧(eP q,textOf x0.2.name)∈NL:=by
 have ZL:∀x∈X,bT x.2=true:=fun x hx=>h.xh.ok x.2 (List.mem_map.2 ⟨x,hx,rfl⟩)
 rcases an4 h.eq (fun d=>jh d q)with⟨h0,hn⟩|⟨i,hi,h1,h2⟩
 ·refine .inl ⟨h0,fun o ho=>?_⟩
  obtain⟨d,hd,-,q',hq',hk⟩:=(h.names _ _).1 ho
  obtain⟨y,hy,rfl⟩:=List.mem_map.1 (h.perm.mem_iff.1 hd)
  have:=hn y hy
  rw[(ZK (ZL y hy)).2 ⟨q',hq',hk⟩]at this
  cases this
 ·obtain⟨q',hq',hk⟩:=(ZK (ZL _ (List.getElem_mem hi))).1 h2
  have hm:X[i].2∈E.map (·.2):=h.perm.mem_iff.2 (List.mem_map.2 ⟨_,List.getElem_mem hi,rfl⟩)
  obtain⟨x0,hx0,e0⟩:=List.mem_map.1 hm
  refine .inr ⟨i,hi,h1,x0,hx0,e0,(h.names _ _).2 ⟨x0.2,List.mem_map.2 ⟨x0,hx0,rfl⟩,rfl,q',by rw[e0];exact hq',hk⟩⟩
theorem iM.span{m:Nat}{w:World}{a:Option Addr}{n k:Nat}(h:iM m w a n k):lY (span m w.heap.size) w a n k:=fun i hi=>by
 obtain⟨b,o,e,h1,h2⟩:=h i hi
 obtain⟨cs,t,h4,-⟩:=RZ h2
 exact⟨b,o,e,⟨h1,(Array.getElem?_eq_some_iff.1 h4).1⟩,h2⟩
theorem qZ.span{m:Nat}{w:World}{r:aN}{d:Entry}(h:qZ m w r d):rQ (span m w.heap.size) w r d:=by
 refine⟨h.at_,h.name.span,h.aliases.span,aV.imp h.keys.1 ?_,h.keys.2.span⟩
 rintro i cs ⟨p,s,h1,h2,h3,h4⟩
 refine⟨p,s,h1,h2,aV.imp h3 ?_,h4⟩
 rintro j cs ⟨q,t,h5,h6,h7,h8⟩
 exact⟨q,t,h5,h6,h7,h8.span⟩
end Go.WW
namespace Go.Proofs.YtfieenjdcpjmgaaGreatDoor
open Go.RowKit Go.WW
end Go.Proofs.YtfieenjdcpjmgaaGreatDoor
namespace Go.WW
open Go.RowKit
def an5(D:Db)(q:az):Entry:=if idxOf (fun d=>jh d q) D.entries<0 then bI else D.entries.getD (idxOf (fun d=>jh d q) D.entries).toNat bI
def an6(D:Db)(q:az):Int:=if idxOf (fun d=>jh d q) D.entries<0 then 9 else 0
def an7(D:Db)(k:ByteArray):ah:=if idxOf (fun x:ah=>decide (x.name=k)) D.ax<0 then lS else D.ax.getD (idxOf (fun x:ah=>decide (x.name=k)) D.ax).toNat lS
def an8(D:Db)(k:ByteArray):Int:=if idxOf (fun x:ah=>decide (x.name=k)) D.ax<0 then 9 else 0
end Go.WW
namespace Go.Proofs.YtfieenjdcpjmgaaGreatDoor
open Go.RowKit Go.WW
section
variable (S:Nat→Prop) (b n e p:Nat) (re:ByteArray) (es ps:Sl) (D:Db) (X:List EE) (N:Nat) (t:Sl) (q:az) (pk:ByteArray) (w:World) (h:iJ S b n e p re es ps D X N w) (hre:¬re=⟨#[]⟩) (hq:bz w t q)
include h hre
include hq in
end
end Go.Proofs.YtfieenjdcpjmgaaGreatDoor
