/- A part of the proof. -/
import Derived.Test.YtpfifochimkpfaaGreatDoorA22
import Derived.Shelf.LaysM
import Derived.Shelf.Slices.Equal
import Derived.Shelf.Slices.Empties2
import Derived.Test.YtpfifochimkpfaaGreatDoorProg
import Derived.Test.YtpfifochimkpfaaGreatDoorA04
import Derived.Test.YtpfifochimkpfaaGreatDoorA19
import Derived.Test.YtpfifochimkpfaaGreatDoorA10
import Derived.Test.YtpfifochimkpfaaGreatDoorA21
import Derived.Test.YtpfifochimkpfaaGreatDoorA11
import Derived.Test.YtpfifochimkpfaaGreatDoorA03
set_option maxRecDepth 100000
set_option maxHeartbeats 2000000
namespace Go.WW
open Go.RowKit
theorem gG.grow{S S':Nat→Prop}{es ps:Sl}{D:Db}{X:List EE}{w:World}(h:gG S es ps D X w)(hS:∀k,S' k→k<w.heap.size→S k):gG S' es ps D X w:=⟨h.dS.grow hS,h.dJ.grow hS,h.cap⟩
end Go.WW
namespace Go.Proofs.YtpfifochimkpfaaGreatDoor
open Go.RowKit Go.WW
structure nR(S:Nat→Prop)(b n e p:Nat)(re:ByteArray)(es ps:Sl)(D:Db)(X:List EE)(N:Nat)(w:World):Prop where
 ex:∃NL E P,jW S b n e p re D.aN NL E P w∧fO D X NL E P
 ref:gG S es ps D X w
 aJ:D.aJ=re
 lt:∀k,S k→k<w.heap.size
 sort:Sorted dB (fun q:ah=>q.name) D.aF
 d0:0≤D.aN
 d1:D.aN≤(N:Int)
 n1:X.length≤N
 n2:D.aF.length≤N
theorem dG.same{w w':World}{b n e p:Nat}{re:ByteArray}{s:Int}{N:List (ByteArray×Value)}{E:List EE}{P:List ah}(h:dG w b n e p re s N E P)(hs:∀k,aW b n e p k→w'.heap[k]?=w.heap[k]?):dG w' b n e p re s N E P:=
 ⟨(hs b (.inl rfl)).trans h.box,h.nm.at (hs n (.inr (.inl rfl))),h.em.at (hs e (.inr (.inr (.inl rfl)))),h.pm.at (hs p (.inr (.inr (.inr rfl)))),h.ne⟩
theorem jW.off{S T:Nat→Prop}{b n e p:Nat}{re:ByteArray}{s:Int}{NL:List (ByteArray×ByteArray)}{E:List EE}{P:List ah}{w w':World}(h:jW S b n e p re s NL E P w)(hb:But T w w')(hT:∀k,T k→S k)(hn:∀k,T k→¬aW b n e p k):jW S b n e p re s NL E P w':=
 ⟨h.db.same fun k hk=>hb.block k (h.lt k hk) fun ht=>hn k ht hk,fun x hx=>(h.keep x hx).on (hb.mono hT),h.sub⟩
theorem jW.grow{S S':Nat→Prop}{b n e p:Nat}{re:ByteArray}{s:Int}{NL:List (ByteArray×ByteArray)}{E:List EE}{P:List ah}{w:World}(h:jW S b n e p re s NL E P w)(hS:∀k,S' k→k<w.heap.size→S k)(hsub:∀k,aW b n e p k→S' k):jW S' b n e p re s NL E P w:=
 ⟨h.db,fun x hx=>(h.keep x hx).grow hS,hsub⟩
theorem nR.later{S:Nat→Prop}{b n e p:Nat}{re:ByteArray}{es ps:Sl}{D:Db}{X:List EE}{N:Nat}{w w':World}(h:nR S b n e p re es ps D X N w)(hb:Below w.heap.size w w'):nR S b n e p re es ps D X N w':=by
 obtain⟨NL,E,P,h1,h2⟩:=h.ex
 exact⟨⟨NL,E,P,h1.later hb,h2⟩,h.ref.later hb,h.aJ,fun k hk=>Nat.lt_of_lt_of_le (h.lt k hk) hb.size,h.sort,h.d0,h.d1,h.n1,h.n2⟩
theorem nR.off{S T:Nat→Prop}{b n e p:Nat}{re:ByteArray}{es ps:Sl}{D:Db}{X:List EE}{N:Nat}{w w':World}(h:nR S b n e p re es ps D X N w)(hb:But T w w')(hT:∀k,T k→S k∧¬aW b n e p k):nR S b n e p re es ps D X N w':=by
 obtain⟨NL,E,P,h1,h2⟩:=h.ex
 exact⟨⟨NL,E,P,h1.off hb (fun k hk=>(hT k hk).1) (fun k hk=>(hT k hk).2),h2⟩,h.ref.on (hb.mono fun k hk=>(hT k hk).1),h.aJ,fun k hk=>Nat.lt_of_lt_of_le (h.lt k hk) hb.size,h.sort,h.d0,h.d1,h.n1,h.n2⟩
theorem nR.wide{S S':Nat→Prop}{b n e p:Nat}{re:ByteArray}{es ps:Sl}{D:Db}{X:List EE}{N:Nat}{w w':World}(h:nR S b n e p re es ps D X N w)(hb:Below w.heap.size w w')(hS:∀k,S' k→S k∨w.heap.size≤k)(hsub:∀k,aW b n e p k→S' k)(hlt:∀k,S' k→k<w'.heap.size):nR S' b n e p re es ps D X N w':=by
 obtain⟨NL,E,P,h1,h2⟩:=h.ex
 have hg:∀k,S' k→k<w.heap.size→S k:=fun k hk hlt=>by
  rcases hS k hk with h|h
  ·exact h
  ·omega
 exact⟨⟨NL,E,P,(h1.grow hg hsub).later hb,h2⟩,(h.ref.grow hg).later hb,h.aJ,hlt,h.sort,h.d0,h.d1,h.n1,h.n2⟩
end Go.Proofs.YtpfifochimkpfaaGreatDoor
namespace Go.Proofs
open Go.Shelf
def Tryz.lays193_ren:Go.Shelf.Ren:=⟨fun|193=>76|n=>n,fun|31=>33|9=>9|4=>4|3=>3|0=>0|n=>n,fun|n=>n⟩
theorem Tryz.lays193:Go.Proofs.Lays.n193 Tryz.prog Tryz.lays193_ren:={
 mixed:=by kernel_rfl
 f193:=Tryz.func76.trans (congrArg some (by kernel_rfl))
 t0:=Tryz.underlying0
 a0:=Tryz.isAgg0
 z0:=Tryz.sizeOf0
 v0:=Tryz.zeroValue0
 t3:=Tryz.underlying3
 a3:=Tryz.isAgg3
 z3:=Tryz.sizeOf3
 v3:=Tryz.zeroValue3
 t4:=Tryz.underlying4
 a4:=Tryz.isAgg4
 z4:=Tryz.sizeOf4
 v4:=Tryz.zeroValue4
 t9:=Tryz.underlying9
 a9:=Tryz.isAgg9
 z9:=Tryz.sizeOf9
 v9:=Tryz.zeroValue9
 t31:=Tryz.underlying33
 a31:=Tryz.isAgg33
 z31:=Tryz.sizeOf33
 v31:=Tryz.zeroValue33}
open Go.RowKit Go.Lib in
theorem Tryz.slices_Equal_string(b1 o1 n c b2 o2 m d:Nat)(xs ys:List ByteArray)(w:World)(hx:n≤xs.length)(hy:m≤ys.length)(hbig:n≤9223372036854775807)(hbig2:m≤9223372036854775807)(hc1:∀j,j<xs.length→w.cell? ⟨b1,o1+j,none⟩=some (.string (xs.getD j ByteArray.empty)))(hc2:∀j,j<ys.length→w.cell? ⟨b2,o2+j,none⟩=some (.string (ys.getD j ByteArray.empty))) :
  Calls Tryz.prog 76 #[.slice (some ⟨b1,o1,none⟩) n c,.slice (some ⟨b2,o2,none⟩) m d] w fun e w'=>e=.returned (.bool (decide (xs.take n=ys.take m)))∧∃q,w'=w.drewN q:=Any.slices_Equal_string Tryz.lays193 b1 o1 n c b2 o2 m d xs ys w hx hy hbig hbig2 hc1 hc2
open Go.RowKit Go.Lib in
theorem Tryz.slices_Equal_string_empty(a1 a2:Option Addr)(c m d:Nat)(w:World)(hbig2:m≤9223372036854775807) :
  Calls Tryz.prog 76 #[.slice a1 0 c,.slice a2 m d] w fun e w'=>e=.returned (.bool (decide (m=0)))∧w'=w:=Any.slices_Equal_string_empty Tryz.lays193 a1 a2 c m d w hbig2
open Go.RowKit Go.Lib in
theorem Tryz.slices_Equal_string_lens(a1 a2:Option Addr)(n c m d:Nat)(w:World)(hnm:n≠m) :
  Calls Tryz.prog 76 #[.slice a1 n c,.slice a2 m d] w fun e w'=>e=.returned (.bool false)∧w'=w:=Any.slices_Equal_string_lens Tryz.lays193 a1 a2 n c m d w hnm
end Go.Proofs
namespace Go.Proofs.YtpfifochimkpfaaGreatDoor
open Go.RowKit Go.WW
theorem aiW(a1 a2:Option Addr)(c d:Nat)(xs ys:List ByteArray)(w:World)(h1:jH w a1 xs)(h2:jH w a2 ys):Calls Tryz.prog 76 #[.slice a1 xs.length c,.slice a2 ys.length d] w fun e w'=>e=.returned (.bool (decide (xs=ys)))∧Below w.heap.size w w':=by
 have l1:xs.length≤4294967000:=h1.1
 have l2:ys.length≤4294967000:=h2.1
 by_cases hn:xs.length=ys.length
 ·by_cases h0:xs.length=0
  ·obtain rfl:xs=[]:=List.eq_nil_of_length_eq_zero h0
   obtain rfl:ys=[]:=List.eq_nil_of_length_eq_zero (by simpa using hn.symm)
   refine(Tryz.slices_Equal_string_empty a1 a2 c 0 d w (by omega)).mono ?_
   rintro e w' ⟨rfl,rfl⟩
   exact⟨by simp,Below.refl _ _⟩
  ·obtain⟨b1,o1,rfl,-,-⟩:=h1.get 0 (by omega)
   obtain⟨b2,o2,rfl,-,-⟩:=h2.get 0 (by omega)
   refine(Tryz.slices_Equal_string b1 o1 xs.length c b2 o2 ys.length d xs ys w (Nat.le_refl _) (Nat.le_refl _) (by omega) (by omega) (fun j hj=>?_) (fun j hj=>?_)).mono ?_
   ·rw[(h1.at j hj).1,List.getD_eq_getElem?_getD,List.getElem?_eq_getElem hj];rfl
   ·rw[(h2.at j hj).1,List.getD_eq_getElem?_getD,List.getElem?_eq_getElem hj];rfl
   ·rintro e w' ⟨rfl,q,rfl⟩
    rw[List.take_length,List.take_length]
    exact⟨rfl,below_drewN (Below.refl _ _) q⟩
 ·refine(Tryz.slices_Equal_string_lens a1 a2 xs.length c ys.length d w hn).mono ?_
  rintro e w' ⟨rfl,rfl⟩
  have:decide (xs=ys)=false:=by simp;intro e;exact hn (by rw[e])
  exact⟨by rw[this],Below.refl _ _⟩
theorem aiX(s t:Sl)(p q:aH)(w:World)(hp:bK w s p)(hq:bK w t q):Calls Tryz.prog 36 #[.agg (az s p),.agg (az t q)] w fun e w'=>e=.returned (.bool (bD p q))∧Below w.heap.size w w':=by
 have hB:Below w.heap.size w ((w.alloc (.cells (az s p) 35)).alloc (.cells (az t q) 35)):=((Below.refl _ _).alloc (Nat.le_refl _) _).alloc (by simp) _
 by_cases hr:p.aJ=q.aJ
 ·have hr':=str_eq _ _ hr
  have HD:=Lib.hid (show bD p q=decide (p.parts=q.parts) by simp[bD,hr])
  clear hr
  rw[HD.out]
  go_enter Tryz.func36,Tryz.ntmps36
  go_wp2_with fail
  refine(aiW _ _ _ _ _ _ _ (hp.later hB).1 (hq.later hB).1).mono ?_
  rintro e w1 ⟨rfl,hb1⟩
  have HB:=Lib.hid (ag hB hb1)
  go_wp2_with fail
  go_ret
  exact⟨rfl,HB.out⟩
 ·have hr':=kJ _ _ hr
  have HN:=Lib.hid (Qd hr);clear hr
  rw[HN.out]
  go_enter Tryz.func36,Tryz.ntmps36
  go_wp2_with fail
  go_ret
  exact⟨rfl,hB⟩
end Go.Proofs.YtpfifochimkpfaaGreatDoor
namespace Go.WW
open Go.RowKit
theorem VR{d:Entry}{p:ah}{now:Int}(h:p.fails=0):fZ d p now=false:=by unfold fZ;rw[h];rfl
theorem VS{P L:List ah}(h:kY P L)(k:ByteArray):P.find? (fun x=>decide (x.name=k))=L.find? (fun x=>decide (x.name=k)):=by
 cases hP:P.find? (fun x=>decide (x.name=k))with
 |none=>
  refine(List.find?_eq_none.2 fun x hx=>?_).symm
  exact List.find?_eq_none.1 hP x (h.perm.mem_iff.2 hx)
 |some q=>
  have hq:=List.mem_of_find?_eq_some hP
  have hqk:q.name=k:=by simpa using List.find?_some hP
  cases hL:L.find? (fun x=>decide (x.name=k))with
  |none=>exact absurd hqk (by simpa using List.find?_eq_none.1 hL q (h.perm.mem_iff.1 hq))
  |some q'=>
   have hq':=List.mem_of_find?_eq_some hL
   have aiY:q'.name=k:=by simpa using List.find?_some hL
   obtain⟨i,hi,rfl⟩:=List.mem_iff_getElem.1 (h.perm.mem_iff.1 hq)
   obtain⟨j,hj,rfl⟩:=List.mem_iff_getElem.1 hq'
   have hij:=GM h.nodup (i:=i) (j:=j) (by simpa using hi) (by simpa using hj) (by simpa using hqk.trans aiY.symm)
   subst hij;rfl
theorem VT{P L:List ah}(h:kY P L)(d:Entry)(now:Int):fZ d (iY P d) now=fZ d (eu L d) now:=by
 unfold iY eu
 split
 ·rw[VR (p:=pq) rfl,VR (p:=dE) rfl]
 ·rw[VS h]
theorem aiZ{L:List ah}{d:Entry}(h:jK L d)(hL:∀q∈L,dA q=true):eu L d=dE∨dA (eu L d)=true:=by
 by_cases he:d.aP=⟨#[]⟩
 ·exact .inl (VH he)
 ·rcases h with h|h
  ·exact absurd h he
  ·right
   unfold eu
   rw[if_neg he]
   obtain⟨x,hx,e⟩:=List.any_eq_true.1 h
   cases hf:L.find? (fun x=>decide (x.name=d.aP))with
   |none=>exact absurd e (by simpa using List.find?_eq_none.1 hf x hx)
   |some y=>exact hL _ (List.mem_of_find?_eq_some hf)
theorem VU{L:List ah}{d:Entry}(hd:bI d=true)(h:jK L d)(hL:∀q∈L,dA q=true):Small d (eu L d):=by
 have hz:fK d pq 0=true:=by simp only[fK,hd,Vg,Bool.true_and];rfl
 rcases aiZ h hL with e|e
 ·rw[e]
  have hs:=(wZ hz).1
  exact⟨hs.l0,hs.l1,hs.f0,hs.f1,by simp[dE],by simp[dE],by simp[dE],by simp[dE],by simp[dE]⟩
 ·have h2:fK d (eu L d) 0=true:=by simp only[fK,hd,e,Bool.true_and];rfl
  exact(wZ h2).1
theorem ai0:aY bg aV dE=#[.slice none 0 0,.string ⟨#[]⟩,.slice none 0 0,.int .u32 0,.int .i64 0,.slice none 0 0,.string ⟨#[]⟩,.int .i64 0,.int .i64 0,.int .i64 0,.int .i64 0,.int .i64 0,.int .i64 0,.int .i64 0,.slice none 0 0,.slice none 0 0,.slice none 0 0,.string ⟨#[]⟩,.int .i64 0,.int .i64 0,.int .i64 0,.int .i64 0,.int .i64 0,.int .i64 0,.int .i64 0,.int .i64 0,.int .i64 0]:=by kernel_rfl
theorem VV{d:Entry}{p:ah}{now:Int}(h1:p.fails=0)(h2:p.window=0):countOf d p now=d.fails:=by
 unfold countOf
 simp[h1,h2]
theorem ai1{P L:List ah}(h:kY P L)(d:Entry)(now:Int):countOf d (iY P d) now=countOf d (eu L d) now:=by
 unfold iY eu
 split
 ·rw[VV (p:=pq) rfl rfl,VV (p:=dE) rfl rfl]
 ·rw[VS h]
theorem ai2{P L:List ah}(h:kY P L)(d:Entry)(s:Bool)(now:Int):jV d (iY P d) s now=jV d (eu L d) s now:=by
 unfold jV
 rw[ai1 h]
inductive Bo(D:Db)(X:List EE)(q:aH)(s:Bool)(now:Int):Int→Db→List EE→Prop where
 |bad (hv:(aZ q&&jc now)=false):Bo D X q s now 2 D X
 |none (hv:(aZ q&&jc now)=true) (hn:∀x∈X,bD x.2.name q=false):Bo D X q s now 9 D X
 |locked (hv:(aZ q&&jc now)=true) (i:Nat) (hi:i<X.length) (hn:bD X[i].2.name q=true) (hl:fZ X[i].2 (eu D.aF X[i].2) now=true):Bo D X q s now 290 D X
 |yes (hv:(aZ q&&jc now)=true) (i:Nat) (hi:i<X.length) (hn:bD X[i].2.name q=true) (hl:fZ X[i].2 (eu D.aF X[i].2) now=false) (no:Int) (D':Db) (X':List EE)
   (ht:rF D X q (jV X[i].2 (eu D.aF X[i].2) s now) (mJ X[i].2 s now) (mM X[i].2 s now) no D' X'):Bo D X q s now no D' X'
end Go.WW
namespace Go.Proofs.YtpfifochimkpfaaGreatDoor
open Go.RowKit Go.WW
theorem ai3(b n e p:Nat)(re:ByteArray)(s:Int)(N:List (ByteArray×Value))(E:List EE)(P:List ah)(t:Sl)(q:aH)(sc:Bool)(now:Int)(w:World)(h:dG w b n e p re s N E P)(hre:¬re=⟨#[]⟩)(hq:bK w t q)(hv:(aZ q&&jc now)=false) :
  Calls Tryz.prog 8 #[.pointer (some ⟨b,0,none⟩),.agg (az t q),.bool sc,.int .i64 now] w fun z w'=>z=.returned (.int .i64 2)∧Below w.heap.size w w':=by
 have hB:Below w.heap.size w (w.alloc (.cells (az t q) 35)):=ay (Below.refl _ _) _
 have hx3:(w.alloc (.cells (az t q) 35)).heap[w.heap.size]?=some (.cells (az t q) 35):=World.alloc_heap_new _ _
 have h':=h.later hB
 have hq':=hq.later hB
 clear h hq
 have h0:=kJ _ _ hre
 have h1:¬re.toList=[]:=fun h=>hre (toList_inj (b:=⟨#[]⟩) (by rw[h,ByteArray.toList_eq]))
 have h2:re.toList.isEmpty=false:=by cases h:re.toList<;>simp_all
 go_enter Tryz.func8,Tryz.ntmps8
 go_wp2_with fail
 generalize (w.alloc (.cells (az t q) 35))=W at *
 obtain⟨c0,c1,c2,c3,c4,f1,hl⟩:=gm h'.box
 have l0:w.heap.size<W.heap.size:=(Array.getElem?_eq_some_iff.1 hx3).1
 obtain⟨xc,xf,xr,xl⟩:=ax hx3
 refine(MI _ _ _ c0 hre).mono ?_
 rintro x w' ⟨rfl,rfl⟩
 dsimp only
 go_wp2_with fail
 refine(ve _ _ _ hq').mono ?_
 rintro x w1 ⟨rfl,hb1⟩
 cases hok:aZ q
 ·dsimp only
  go_wp2_with fail
  go_ret
  exact⟨rfl,ag hB hb1⟩
 ·have ht:jc now=false:=by rw[hok]at hv;simpa using hv
  dsimp only
  go_wp2_with fail
  refine(EY _ _).mono ?_
  rintro x w' ⟨rfl,rfl⟩
  rw[ht]
  dsimp only
  go_wp2_with fail
  go_ret
  exact⟨rfl,ag hB hb1⟩
theorem ai4(b n e p:Nat)(re:ByteArray)(s:Int)(NL:List (ByteArray×ByteArray))(E:List EE)(P:List ah)(t:Sl)(q:aH)(sc:Bool)(now:Int)(w:World)(h:dG w b n e p re s (ed NL) E P)(hre:¬re=⟨#[]⟩)(hq:bK w t q)(hv:(aZ q&&jc now)=true)(hno:∀o,(gu q,o)∉NL)(hE0:∀x∈E,textOf x.2.name≠⟨#[]⟩) :
  Calls Tryz.prog 8 #[.pointer (some ⟨b,0,none⟩),.agg (az t q),.bool sc,.int .i64 now] w fun z w'=>z=.returned (.int .i64 9)∧Below w.heap.size w w':=by
 have hB:Below w.heap.size w (w.alloc (.cells (az t q) 35)):=ay (Below.refl _ _) _
 have hx3:(w.alloc (.cells (az t q) 35)).heap[w.heap.size]?=some (.cells (az t q) 35):=World.alloc_heap_new _ _
 have h':=h.later hB
 have hq':=hq.later hB
 clear h hq
 have h0:=kJ _ _ hre
 have h1:¬re.toList=[]:=fun h=>hre (toList_inj (b:=⟨#[]⟩) (by rw[h,ByteArray.toList_eq]))
 have h2:re.toList.isEmpty=false:=by cases h:re.toList<;>simp_all
 obtain⟨hok,ht⟩:aZ q=true∧jc now=true:=by simpa using hv
 go_enter Tryz.func8,Tryz.ntmps8
 go_wp2_with fail
 generalize (w.alloc (.cells (az t q) 35))=W at *
 obtain⟨c0,c1,c2,c3,c4,f1,hl⟩:=gm h'.box
 have l0:w.heap.size<W.heap.size:=(Array.getElem?_eq_some_iff.1 hx3).1
 obtain⟨xc,xf,xr,xl⟩:=ax hx3
 refine(MI _ _ _ c0 hre).mono ?_
 rintro x w' ⟨rfl,rfl⟩
 dsimp only
 go_wp2_with fail
 refine(ve _ _ _ hq').mono ?_
 rintro x w1 ⟨rfl,hb1⟩
 rw[hok]
 dsimp only
 have hx1:=aI hb1 hx3
 clear xc xf xr xl
 obtain⟨xc,xf,xr,xl⟩:=ax hx1
 go_wp2_with fail
 refine(EY _ _).mono ?_
 rintro x w' ⟨rfl,rfl⟩
 rw[ht]
 dsimp only
 go_wp2_with fail
 refine(ahC b n e p re s NL E P t q _ (h'.later hb1) hre (hq'.later hb1) hno hE0).mono ?_
 rintro x w2 ⟨rfl,hb2⟩
 dsimp only
 go_wp2_with fail
 go_ret
 exact⟨rfl,ay (ag (ag hB hb1) hb2) _⟩
theorem Nl(b n e p:Nat)(re:ByteArray)(s:Int)(NL:List (ByteArray×ByteArray))(E:List EE)(P:List ah)(t:Sl)(q:aH)(sc:Bool)(now:Int)(w:World)(h:dG w b n e p re s (ed NL) E P)(hre:¬re=⟨#[]⟩)(hq:bK w t q)(hv:(aZ q&&jc now)=true)
  (x0:EE) (hx0:x0∈E) (hk:(gu q,textOf x0.2.name)∈NL) (he:aS w x0.1 x0.2) (hp:jK P x0.2) (hsm:Small x0.2 (iY P x0.2)) (R:Ending→World→Prop)
  (hN:bD x0.2.name q=false→∀w',Below w.heap.size w w'→R (.returned (.int .i64 9)) w')
  (hL:bD x0.2.name q=true→fZ x0.2 (iY P x0.2) now=true→∀w',Below w.heap.size w w'→R (.returned (.int .i64 290)) w')
  (hT:bD x0.2.name q=true→fZ x0.2 (iY P x0.2) now=false→∀w',Below w.heap.size w w'→Calls Tryz.prog 40 #[.pointer (some ⟨b,0,none⟩),.agg (az t q),.int .i64 (jV x0.2 (iY P x0.2) sc now),.int .i64 (mJ x0.2 sc now),.int .i64 (mM x0.2 sc now)] w' fun z w2=>∃no,z=.returned (.int .i64 no)∧R z w2) :
  Calls Tryz.prog 8 #[.pointer (some ⟨b,0,none⟩),.agg (az t q),.bool sc,.int .i64 now] w R:=by
 have hB:Below w.heap.size w (w.alloc (.cells (az t q) 35)):=ay (Below.refl _ _) _
 have hx3:(w.alloc (.cells (az t q) 35)).heap[w.heap.size]?=some (.cells (az t q) 35):=World.alloc_heap_new _ _
 have h':=h.later hB
 have hq':=hq.later hB
 have he':=he.later hB
 have HN:=Lib.hid hN
 have HL:=Lib.hid hL
 have HT:=Lib.hid hT
 have vU:=Lib.hid hsm
 clear h hq he hN hL hT hsm
 have h0:=kJ _ _ hre
 have h1:¬re.toList=[]:=fun h=>hre (toList_inj (b:=⟨#[]⟩) (by rw[h,ByteArray.toList_eq]))
 have h2:re.toList.isEmpty=false:=by cases h:re.toList<;>simp_all
 obtain⟨hok,ht⟩:aZ q=true∧jc now=true:=by simpa using hv
 clear hv
 go_enter Tryz.func8,Tryz.ntmps8
 go_wp2_with fail
 generalize (w.alloc (.cells (az t q) 35))=W at *
 obtain⟨c0,c1,c2,c3,c4,f1,hl⟩:=gm h'.box
 have l0:w.heap.size<W.heap.size:=(Array.getElem?_eq_some_iff.1 hx3).1
 obtain⟨xc,xf,xr,xl⟩:=ax hx3
 refine(MI _ _ _ c0 hre).mono ?_
 rintro x w' ⟨rfl,rfl⟩
 dsimp only
 go_wp2_with fail
 refine(ve _ _ _ hq').mono ?_
 rintro x w1 ⟨rfl,hb1⟩
 rw[hok]
 dsimp only
 have hx1:=aI hb1 hx3
 clear xc xf xr xl c0 c1 c2 c3 c4 f1 hl
 obtain⟨xc,xf,xr,xl⟩:=ax hx1
 go_wp2_with fail
 refine(EY _ _).mono ?_
 rintro x w' ⟨rfl,rfl⟩
 rw[ht]
 dsimp only
 go_wp2_with fail
 refine(ahB b n e p re s NL E P t q _ (h'.later hb1) hre (hq'.later hb1) x0 hx0 hk (he'.later hb1)).mono ?_
 rintro x w2 ⟨r',rfl,hb2,hd2⟩
 have hx2:=aI hb2 hx1
 have heR:=hd2 w2 (fun _ _=>rfl)
 have hw:=ag (ag hB hb1) hb2
 have fJ:=ag hb1 hb2
 clear xc xf xr xl hd2
 dsimp only
 obtain⟨x0r,jL⟩:=x0
 dsimp only at *
 have iG:Below w2.heap.size w2 (w2.alloc (.cells (ae r' jL) 44)):=ay (Below.refl _ _) _
 have h9:=World.alloc_heap_new w2 (.cells (ae r' jL) 44)
 have VW:=aI iG hx2
 have he9:=heR.later iG
 obtain⟨xc,xf,xr,xl⟩:=ax VW
 obtain⟨yc,yf,yr,yl⟩:=ax h9
 go_wp2_with fail
 refine(aiX _ _ _ _ _ he9.name (hq'.later (ag fJ iG))).mono ?_
 rintro x w3 ⟨rfl,hb3⟩
 have hw3:=ag (ag hw iG) hb3
 cases hsame:bD jL.name q
 ·dsimp only
  go_wp2_with fail
  exact HN.out hsame _ hw3
 have VX:=aI hb3 VW
 have h93:=aI hb3 h9
 have h3':=h'.later (ag (ag fJ iG) hb3)
 have hq3:=hq'.later (ag (ag fJ iG) hb3)
 clear xc xf xr xl yc yf yr yl
 obtain⟨xc,xf,xr,xl⟩:=ax VX
 obtain⟨yc,yf,yr,yl⟩:=ax h93
 dsimp only
 go_wp2_with fail
 apply Ba (M:=fun(bx:Nat) V=>Below w3.heap.size w3 V∧V.heap[bx]?=some (.cells (aY r' jL (iY P jL)) 86)∧w3.heap.size≤bx)
 case h1=>
  refine yK 5 3 [0,1,2,5,3,4,6] (Below.refl _ w3) (by kernel_rfl) (by kernel_rfl) (by rfl) ?_ ?_
  ·intro v1 hv1
   obtain⟨hc,hf,hr⟩:=aQ hv1
   repeat (first|(refine ai (by rfl) ?_)|(refine au (by rfl) (by rfl) (fun K hK=>?_);go_big_quiet_op;refine hK _ ?_;clear hK K))
   refine aB (by rfl) (by rfl) (fun K hK=>?_)
   go_wp2_with fail
   refine(Vh b n e p re s (ed NL) E P r' jL v1 (h3'.later hv1) hre hp).mono ?_
   rintro z v2 ⟨rfl,hv2⟩
   have aU:=ag hv1 hv2
   go_wp2_with fail
   refine hK _ _ (aj aU) ?_
   clear hK K
   clear hc hf hr
   obtain⟨hc,hf,hr⟩:=aQ aU
   repeat (first|(refine ai (by rfl) ?_)|(refine au (by rfl) (by rfl) (fun K hK=>?_);go_big_quiet_op;refine hK _ ?_;clear hK K))
   refine aB (by rfl) (by rfl) (fun K hK=>?_)
   go_wp2_with fail
   refine hK _ _ (aj (ay aU _)) ?_
   clear hK K
   repeat (first|(refine ai (by rfl) ?_)|(refine au (by rfl) (by rfl) (fun K hK=>?_);go_big_quiet_op;refine hK _ ?_;clear hK K))
   refine aB (by rfl) (by rfl) (fun K hK=>?_)
   go_wp2_with fail
   refine hK _ _ (aj (ay aU (.cells (aY r' jL (iY P jL)) 86))) ?_
   clear hK K
   repeat (first|(refine ai (by rfl) ?_)|(refine au (by rfl) (by rfl) (fun K hK=>?_);go_big_quiet_op;refine hK _ ?_;clear hK K))
   refine bz ?_
   have eQ:=ay aU (.cells (aY r' jL (iY P jL)) 86)
   have hbx:=World.alloc_heap_new v2 (.cells (aY r' jL (iY P jL)) 86)
   have jw:w3.heap.size≤v2.heap.size:=aU.size
   clear hc hf hr hv1 hv2 aU
   generalize (v2.alloc (.cells (aY r' jL (iY P jL)) 86))=V5 at *
   generalize v2.heap.size=bx at *
   exact⟨by first|rfl|trivial,bx,rfl,⟨eQ,hbx,jw⟩⟩
  ·intro v1 hv1
   change aG _ _ _ _ _ [_,_,_,_,_,_,_] _ _
   obtain⟨hc,hf,hr⟩:=aQ hv1
   repeat (first|(refine ai (by rfl) ?_)|(refine au (by rfl) (by rfl) (fun K hK=>?_);go_big_quiet_op;refine hK _ ?_;clear hK K))
   refine aB (by rfl) (by rfl) (fun K hK=>?_)
   go_wp2_with fail
   refine hK _ _ (aj (ay hv1 _)) ?_
   clear hK K
   rw[←ai0]
   have hz1:=World.alloc_heap_new v1 (.cells (aY bg aV dE) 86)
   have iF:=ay hv1 (.cells (aY bg aV dE) 86)
   generalize v1.alloc (.cells (aY bg aV dE) 86)=Z at *
   repeat (first|(refine ai (by rfl) ?_)|(refine au (by rfl) (by rfl) (fun K hK=>?_);go_big_quiet_op;refine hK _ ?_;clear hK K))
   refine aB (by rfl) (by rfl) (fun K hK=>?_)
   go_wp2_with fail
   refine(Vh b n e p re s (ed NL) E P r' jL Z (h3'.later iF) hre hp).mono ?_
   rintro z v2 ⟨rfl,hv2⟩
   have aU:=ag iF hv2
   have hz2:=aI hv2 hz1
   have hcp:aX v2 v1.heap.size 0 27=true:=iC hz2 (by simp[go_sem])
   have eQ:=Go.WW.Below.putRow (o:=0) (cs:=aY r' jL (iY P jL)) aU hv1.size
   go_wp2_with fail
   refine hK _ _ (aj aU) ?_
   clear hK K
   clear hc hf hr
   obtain⟨hc,hf,hr⟩:=aQ aU
   repeat (first|(refine ai (by rfl) ?_)|(refine au (by rfl) (by rfl) (fun K hK=>?_);go_big_quiet_op;refine hK _ ?_;clear hK K))
   refine aB (by rfl) (by rfl) (fun K hK=>?_)
   go_wp2_with fail
   refine hK _ _ (aj eQ) ?_
   clear hK K
   repeat (first|(refine ai (by rfl) ?_)|(refine au (by rfl) (by rfl) (fun K hK=>?_);go_big_quiet_op;refine hK _ ?_;clear hK K))
   refine bz ?_
   have hbx:=jk (o:=0) (cs:=aY r' jL (iY P jL)) hz2 (by simp[go_sem])
   rw[kR (by simp[go_sem])]at hbx
   have jw:w3.heap.size≤v1.heap.size:=hv1.size
   clear hc hf hr hv2 aU hz1 hz2 hcp iF
   generalize (putRow v2 v1.heap.size 0 (aY r' jL (iY P jL)))=V5 at *
   generalize v1.heap.size=bx at *
   exact⟨by first|rfl|trivial,bx,rfl,⟨eQ,hbx,jw⟩⟩
 rintro bx V ⟨bV,hbx,hge⟩
 clear xc xf xr xl yc yf yr yl
 obtain⟨ac,af,ar,al⟩:=ax hbx
 go_wp2_with fail
 refine(yA _ _ _ _ _ vU.out).mono ?_
 rintro x V1 ⟨rfl,uA⟩
 have hV1:=ag (ag hw3 bV) uA
 cases hlk:fZ jL (iY P jL) now
 ·have DU:=aI uA hbx
  have ai8:=aI uA (aI bV VX)
  clear ac af ar al
  obtain⟨ac,af,ar,al⟩:=ax DU
  dsimp only
  go_wp2_with fail
  refine(Ku _ _ _ _ _ _ vU.out).mono ?_
  rintro x V2 ⟨rfl,VY⟩
  have ai9:=aI VY ai8
  clear ac af ar al
  obtain⟨xc,xf,xr,xl⟩:=ax ai9
  dsimp only
  go_wp2_with fail
  refine(HT.out hsame hlk V2 (ag hV1 VY)).mono ?_
  rintro x V3 ⟨no,rfl,hR⟩
  dsimp only
  go_wp2_with fail
  exact hR
 ·dsimp only
  go_wp2_with fail
  exact HL.out hsame hlk _ hV1
end Go.Proofs.YtpfifochimkpfaaGreatDoor
namespace Go.WW
open Go.RowKit
theorem Np{P L:List ah}(h:kY P L){d:Entry}(hd:bI d=true)(hp:jK P d):Small d (iY P d):=by
 have h2:fK d (iY P d) 0=true:=by
  simp only[fK,hd,ahg hp fun q hq=>h.ok q (h.perm.mem_iff.1 hq),Bool.true_and];rfl
 exact(wZ h2).1
theorem aja{P L:List ah}(h:kY P L){d:Entry}(hp:jK L d):jK P d:=by
 rcases hp with hp|hp
 ·exact .inl hp
 ·exact .inr (by rw[h.any];exact hp)
theorem fO.inE{D:Db}{X:List EE}{NL:List (ByteArray×ByteArray)}{E:List EE}{P:List ah}(h:fO D X NL E P){i:Nat}(hi:i<X.length):∃x0∈E,x0.2=X[i].2:=by
 have hm:X[i].2∈E.map (·.2):=h.perm.mem_iff.2 (List.mem_map.2 ⟨_,List.getElem_mem hi,rfl⟩)
 obtain⟨x0,hx0,e⟩:=List.mem_map.1 hm
 exact⟨x0,hx0,e⟩
theorem fO.VZ{D:Db}{X:List EE}{NL:List (ByteArray×ByteArray)}{E:List EE}{P:List ah}(h:fO D X NL E P){x:EE}(hx:x∈E):∃y∈X,y.2=x.2:=by
 have hm:x.2∈X.map (·.2):=h.perm.mem_iff.1 (List.mem_map.2 ⟨_,hx,rfl⟩)
 obtain⟨y,hy,e⟩:=List.mem_map.1 hm
 exact⟨y,hy,e⟩
end Go.WW
namespace Go.Proofs.YtpfifochimkpfaaGreatDoor
open Go.RowKit Go.WW
section
variable (S:Nat→Prop) (b n e p:Nat) (re:ByteArray) (s:Int) (NL:List (ByteArray×ByteArray)) (E:List EE) (P:List ah) (D D':Db) (X X':List EE) (no:Int) (w:World)
theorem ajc(t:Sl)(q:aH)(sc:Bool)(now:Int)(h:jW S b n e p re s NL E P w)(hre:¬re=⟨#[]⟩)(hr:fO D X NL E P)(hst:Bo D X q sc now no D' X')(hq:bK w t q)(hs0:0≤s)(hs1:s<1000000) :
  Calls Tryz.prog 8 #[.pointer (some ⟨b,0,none⟩),.agg (az t q),.bool sc,.int .i64 now] w (Bj S b n e p re s D D' X' no w):=by
 have Iq:∀x∈E,bI x.2=true:=fun x hx=>hr.good.ok x.2 (List.mem_map.2 ⟨x,hx,rfl⟩)
 have Bq:∀x∈E,jK P x.2:=fun x hx=>by
  obtain⟨y,hy,e'⟩:=hr.VZ hx
  exact aja hr.dJ (e'▸hr.has y hy)
 have hit:∀i (hi:i<X.length),bD X[i].2.name q=true→∃x0∈E,x0.2=X[i].2∧(gu q,textOf x0.2.name)∈NL:=fun i hi hn=>by
  obtain⟨x0,hx0,e0⟩:=hr.inE hi
  have hk:textOf x0.2.name=gu q:=(Io (Iq x0 hx0)).1 (e0▸hn)
  exact⟨x0,hx0,e0,(hr.names _ _).2 ⟨x0.2,List.mem_map.2 ⟨x0,hx0,rfl⟩,rfl,x0.2.name,List.mem_cons_self ..,hk.symm⟩⟩
 cases hst with
 |bad hv=>exact(ai3 b n e p re s _ E P t q sc now w h.db hre hq hv).mono (xI S b n e p re s NL E P D X 2 w h hr)
 |none hv hn=>
  have nobody:∀x∈E,bD x.2.name q=false:=fun x hx=>by
   obtain⟨y,hy,e'⟩:=hr.VZ hx
   rw[←e'];exact hn y hy
  by_cases hk:∃o,(gu q,o)∈NL
  ·obtain⟨o,ho⟩:=hk
   obtain⟨d,hd,rfl,-⟩:=(hr.names _ _).1 ho
   obtain⟨x0,hx0,rfl⟩:=List.mem_map.1 hd
   refine Nl b n e p re s NL E P t q sc now w h.db hre hq hv x0 hx0 ho (h.keep x0 hx0).out (Bq x0 hx0) (Np hr.dJ (Iq x0 hx0) (Bq x0 hx0)) _ (fun _ w' hb=>xI S b n e p re s NL E P D X 9 w h hr _ _ ⟨rfl,hb⟩) (fun hs=>?_) (fun hs=>?_)
   iterate 2
    ·rw[nobody x0 hx0]at hs;cases hs
  ·exact(ai4 b n e p re s NL E P t q sc now w h.db hre hq hv (fun o ho=>hk ⟨o,ho⟩) (fun x _=>Vm _)).mono (xI S b n e p re s NL E P D X 9 w h hr)
 |locked hv i hi hn hl=>
  obtain⟨x0,hx0,e0,hk⟩:=hit i hi hn
  refine Nl b n e p re s NL E P t q sc now w h.db hre hq hv x0 hx0 hk (h.keep x0 hx0).out (Bq x0 hx0) (Np hr.dJ (Iq x0 hx0) (Bq x0 hx0)) _ (fun hs=>?_) (fun _ _ w' hb=>xI S b n e p re s NL E P D X 290 w h hr _ _ ⟨rfl,hb⟩) (fun _ hs=>?_)
  ·rw[e0,hn]at hs;cases hs
  ·rw[VT hr.dJ,e0,hl]at hs;cases hs
 |yes hv i hi hn hl no D' X' ht=>
  obtain⟨x0,hx0,e0,hk⟩:=hit i hi hn
  refine Nl b n e p re s NL E P t q sc now w h.db hre hq hv x0 hx0 hk (h.keep x0 hx0).out (Bq x0 hx0) (Np hr.dJ (Iq x0 hx0) (Bq x0 hx0)) _ (fun hs=>?_) (fun _ hs=>?_) (fun _ _ w' hb=>?_)
  ·rw[e0,hn]at hs;cases hs
  ·rw[VT hr.dJ,e0,hl]at hs;cases hs
  ·rw[ai2 hr.dJ,e0]
   refine(aiB S b n e p re s NL E P D D' X X' no w' t q _ _ _ (h.later hb) hre hr ht (hq.later hb) hs0 hs1).mono ?_
   rintro z w2 ⟨rfl,hbu,hx⟩
   exact⟨no,rfl,rfl,(But.of_below hb).trans hbu,hx⟩
end
end Go.Proofs.YtpfifochimkpfaaGreatDoor
