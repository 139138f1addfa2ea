/- A part of the proof. -/
import Derived.Test.YtibhckkjciflaaaGreatDoorA27
import Derived.Test.YtibhckkjciflaaaGreatDoorA26
import Derived.Test.YtibhckkjciflaaaGreatDoorA22
import Derived.Test.YtibhckkjciflaaaGreatDoorA16
import Derived.Test.YtibhckkjciflaaaGreatDoorA25
set_option maxRecDepth 100000
set_option maxHeartbeats 4000000
namespace Go.Proofs.YtibhckkjciflaaaGreatDoor
open Go.RowKit Go.WW
theorem lu{w:World}{b n:Nat}{c:Array Value}{t:TypeId}(h:w.heap[b]?=some (.cells c t))(hn:c.size=n):row? w b 0 n=some c:=by
 rw[AB h];subst hn;exact Il rfl
theorem afD{S:Nat→Prop}{W w:World}{g o:Nat}{cs:Array Value}(h:But S W w)(hg:S g):But S W (putRow w g o cs):=by
 have hb:=Go.WW.Below.putRow (cs:=cs) (o:=o) (Below.refl 0 w) (Nat.zero_le g)
 exact h.trans ⟨hb.os,hb.tape,hb.output,hb.size,fun k _ hn=>iP (fun e=>hn (e▸hg))⟩
theorem afE(x:aT)(s:Sl)(r:aC)(w:World)(hr:bD x=false):Calls Tryz.prog 7 #[.agg (aH x s r)] w fun e w'=>e=.returned (.bool (cZ x))∧Below w.heap.size w w':=by
 have HN:=Lib.hid (yM hr)
 rw[HN.out]
 have hB:Below w.heap.size w (w.alloc (.cells (aH x s r) 36)):=az (Below.refl _ _) _
 unfold bD at hr
 unfold aH at *
 cases h1:ag x.i 1 1099511627776
 ·go_enter Tryz.func7,Tryz.ntmps7
  go_wp2_with (first|(go_at_call 27;refine(lq _ _ _ _).mono ?_;rintro e w' ⟨rfl,rfl⟩)|(go_at_call 28;refine(mW _ _).mono ?_;rintro e w' ⟨rfl,rfl⟩))
  go_ret
  exact⟨rfl,hB⟩
 cases h2:ag x.t 1 2147483648
 ·go_enter Tryz.func7,Tryz.ntmps7
  go_wp2_with (first|(go_at_call 27;refine(lq _ _ _ _).mono ?_;rintro e w' ⟨rfl,rfl⟩)|(go_at_call 28;refine(mW _ _).mono ?_;rintro e w' ⟨rfl,rfl⟩))
  go_ret
  exact⟨rfl,hB⟩
 have h3:ag x.m 0 1099511627776=false:=by simpa[h1,h2]using hr
 go_enter Tryz.func7,Tryz.ntmps7
 go_wp2_with (first|(go_at_call 27;refine(lq _ _ _ _).mono ?_;rintro e w' ⟨rfl,rfl⟩)|(go_at_call 28;refine(mW _ _).mono ?_;rintro e w' ⟨rfl,rfl⟩))
 go_ret
 exact⟨rfl,hB⟩
theorem afF(x:aT)(s:Sl)(r:aC)(w:World)(hx:dV w s r x)(hr:bD x=true)(hk:x.k=1):Calls Tryz.prog 7 #[.agg (aH x s r)] w fun e w'=>e=.returned (.bool (cZ x))∧Below w.heap.size w w':=by
 obtain⟨R,hR⟩:∃R,R=cZ x:=⟨_,rfl⟩
 rw[←hR]
 have HR:=Lib.hid hR
 have HK:=Lib.hid (TQ hk)
 have HG:=Lib.hid hr
 have HU:=Lib.hid (oO hx)
 have sH:=Lib.hid (TK s r hk)
 have hB0:Below w.heap.size w (w.alloc (.cells (aj x.i x.t x.m x.k s x.n r x.d x.q x.pn x.f x.a x.b) 36)):=az (Below.refl _ _) _
 have h1:ag x.i 1 1099511627776=true:=by unfold bD at hr;simp at hr;exact hr.1
 have h2:ag x.t 1 2147483648=true:=by unfold bD at hr;simp at hr;exact hr.2.1
 have h3:ag x.m 0 1099511627776=true:=by unfold bD at hr;simp at hr;exact hr.2.2
 have e1:(x.k == 1)=true:=by simp[hk]
 clear hR hr hk
 unfold aH
 go_enter Tryz.func7,Tryz.ntmps7
 iterate 2 go_step
 apply bK (M:=fun V=>Below w.heap.size w V∧V.heap[w.heap.size]?=some (.cells (aj x.i x.t x.m x.k s x.n r x.d x.q x.pn x.f x.a x.b) 36)∧V.heap.size=w.heap.size+1)
 case h1=>
  go_wp2_with fail
  exact⟨rfl,⟨hB0,World.alloc_heap_new w _,by simp⟩⟩
 rintro V0 ⟨hb0,hx0,hs0⟩
 iterate 3 go_step
 apply bK (M:=fun V=>V=V0)
 case h1=>
  obtain⟨hc,hf,hr,hl⟩:=aN hx0
  go_wp2_with (first|(go_at_call 27;refine(lq _ _ _ _).mono ?_;rintro e w' ⟨rfl,rfl⟩)|(go_at_call 28;refine(mW _ _).mono ?_;rintro e w' ⟨rfl,rfl⟩))
  exact⟨rfl,⟨rfl⟩⟩
 rintro V rfl
 have dI:=Lib.hid (show w.heap.size<V.heap.size by omega)
 clear hs0 h1 h2 h3 hB0
 iterate 3 go_step
 apply bK (M:=fun U=>Below w.heap.size w U∧U.heap[w.heap.size]?=some (.cells (aj x.i x.t x.m x.k s x.n r x.d x.q x.pn x.f x.a x.b) 36)∧U.heap[V.heap.size]?=some (.cells (aj x.i x.t x.m x.k cO dA bz aX bI ⟨#[]⟩ 0 0 0) 36))
 case h1=>
  obtain⟨hc,hf,hr,hl⟩:=aN hx0
  go_wp2_with fail
  have hs:=dI.out
  exact⟨rfl,⟨hb0.alloc (by omega) _,((az (Below.refl _ V) _).block _ hs).trans hx0,World.alloc_heap_new V _⟩⟩
 rintro U ⟨hB1,hx1,hy1⟩
 have hlt:=dI.out
 clear dI hb0 hx0
 generalize V.heap.size=g at *
 have hne:w.heap.size≠g:=by omega
 have hne2:g≠w.heap.size:=by omega
 obtain⟨hc,hf,hr,hl⟩:=aN hx1
 obtain⟨hc2,hf2,hr2,hl2⟩:=aN hy1
 have HX:=Lib.hid hx1
 have HY:=Lib.hid hy1
 clear hx1 hy1
 have hcp:aS U g 6 17=true:=nS HY.out (by simp[go_sem])
 go_wp2_with fail
 have hxs:(putRow U g 6 (ay r x.d)).heap[w.heap.size]?=some (.cells (aj x.i x.t x.m x.k s x.n r x.d x.q x.pn x.f x.a x.b) 36):=(iP hne).trans HX.out
 have hys:(putRow U g 6 (ay r x.d)).heap[g]?=some (.cells (aj x.i x.t x.m x.k cO dA r x.d bI ⟨#[]⟩ 0 0 0) 36):=(nR HY.out (by simp[go_sem])).trans (by rfl)
 have hB2:Below w.heap.size w (putRow U g 6 (ay r x.d)):=Go.WW.Below.putRow hB1 (by omega)
 generalize putRow U g 6 (ay r x.d)=S1 at *
 have HB2:=Lib.hid hB2
 clear hcp hc hf hr hl hc2 hf2 hr2 hl2 hB1 hB2 HX HY
 refine(Rx r x.d _ (hx.2.1.later HB2.out)).mono ?_
 rintro e U2 ⟨rfl,hb2⟩
 have hxT:=(hb2.block _ (Array.getElem?_eq_some_iff.1 hxs).1).trans hxs
 have jZ:=(hb2.block _ (Array.getElem?_eq_some_iff.1 hys).1).trans hys
 have HB3:=Lib.hid (af HB2.out hb2)
 clear hb2 hxs hys
 cases hv:fV x.d
 ·clear hxT jZ
  go_wp2_with fail
  go_ret
  exact⟨by rw[HR.out,rZ (by rw[HK.out,hv])];rfl,HB3.out⟩
 have HV:=Lib.hid (show kindOk x=true by rw[HK.out,hv])
 clear hv
 have hrx:=lu hxT (wK x.i x.t x.m x.k s x.n r x.d x.q x.pn x.f x.a x.b)
 have lZ:=lu jZ (by simp[go_sem]:(aj x.i x.t x.m x.k cO dA r x.d bI ⟨#[]⟩ 0 0 0).size=37)
 clear hxT jZ
 go_wp2_with fail
 rw[←sH.out]
 refine(wR x (dX x) s (gB x s) r (gG x r) _ (hx.later HB3.out) (HU.out.later HB3.out)).mono ?_
 rintro e Z ⟨rfl,hbz⟩
 have HZ:=Lib.hid (af HB3.out hbz)
 clear hrx lZ hbz
 go_wp2_with fail
 go_ret
 exact⟨by rw[HR.out,BL HG.out HV.out];rfl,HZ.out⟩
theorem afG(x:aT)(s:Sl)(r:aC)(w:World)(hx:dV w s r x)(hr:bD x=true)(hk:x.k=2):Calls Tryz.prog 7 #[.agg (aH x s r)] w fun e w'=>e=.returned (.bool (cZ x))∧Below w.heap.size w w':=by
 obtain⟨R,hR⟩:∃R,R=cZ x:=⟨_,rfl⟩
 rw[←hR]
 have HR:=Lib.hid hR
 have HK:=Lib.hid (TR hk)
 have HG:=Lib.hid hr
 have HU:=Lib.hid (oO hx)
 have sH:=Lib.hid (TL s r hk)
 have hB0:Below w.heap.size w (w.alloc (.cells (aj x.i x.t x.m x.k s x.n r x.d x.q x.pn x.f x.a x.b) 36)):=az (Below.refl _ _) _
 have h1:ag x.i 1 1099511627776=true:=by unfold bD at hr;simp at hr;exact hr.1
 have h2:ag x.t 1 2147483648=true:=by unfold bD at hr;simp at hr;exact hr.2.1
 have h3:ag x.m 0 1099511627776=true:=by unfold bD at hr;simp at hr;exact hr.2.2
 have e1:(x.k == 1)=false:=by simp[hk]
 have e2:(x.k == 2)=true:=by simp[hk]
 clear hR hr hk
 unfold aH
 go_enter Tryz.func7,Tryz.ntmps7
 iterate 2 go_step
 apply bK (M:=fun V=>Below w.heap.size w V∧V.heap[w.heap.size]?=some (.cells (aj x.i x.t x.m x.k s x.n r x.d x.q x.pn x.f x.a x.b) 36)∧V.heap.size=w.heap.size+1)
 case h1=>
  go_wp2_with fail
  exact⟨rfl,⟨hB0,World.alloc_heap_new w _,by simp⟩⟩
 rintro V0 ⟨hb0,hx0,hs0⟩
 iterate 3 go_step
 apply bK (M:=fun V=>V=V0)
 case h1=>
  obtain⟨hc,hf,hr,hl⟩:=aN hx0
  go_wp2_with (first|(go_at_call 27;refine(lq _ _ _ _).mono ?_;rintro e w' ⟨rfl,rfl⟩)|(go_at_call 28;refine(mW _ _).mono ?_;rintro e w' ⟨rfl,rfl⟩))
  exact⟨rfl,⟨rfl⟩⟩
 rintro V rfl
 have dI:=Lib.hid (show w.heap.size<V.heap.size by omega)
 clear hs0 h1 h2 h3 hB0
 iterate 3 go_step
 apply bK (M:=fun U=>Below w.heap.size w U∧U.heap[w.heap.size]?=some (.cells (aj x.i x.t x.m x.k s x.n r x.d x.q x.pn x.f x.a x.b) 36)∧U.heap[V.heap.size]?=some (.cells (aj x.i x.t x.m x.k cO dA bz aX bI ⟨#[]⟩ 0 0 0) 36))
 case h1=>
  obtain⟨hc,hf,hr,hl⟩:=aN hx0
  go_wp2_with fail
  have hs:=dI.out
  exact⟨rfl,⟨hb0.alloc (by omega) _,((az (Below.refl _ V) _).block _ hs).trans hx0,World.alloc_heap_new V _⟩⟩
 rintro U ⟨hB1,hx1,hy1⟩
 have hlt:=dI.out
 clear dI hb0 hx0
 generalize V.heap.size=g at *
 have hne:w.heap.size≠g:=by omega
 have hne2:g≠w.heap.size:=by omega
 obtain⟨hc,hf,hr,hl⟩:=aN hx1
 obtain⟨hc2,hf2,hr2,hl2⟩:=aN hy1
 have HX:=Lib.hid hx1
 have HY:=Lib.hid hy1
 clear hx1 hy1
 have hcp:aS U g 4 2=true:=nS HY.out (by simp[go_sem])
 go_wp2_with fail
 have hxs:(putRow U g 4 (aJ s x.n)).heap[w.heap.size]?=some (.cells (aj x.i x.t x.m x.k s x.n r x.d x.q x.pn x.f x.a x.b) 36):=(iP hne).trans HX.out
 have hys:(putRow U g 4 (aJ s x.n)).heap[g]?=some (.cells (aj x.i x.t x.m x.k s x.n bz aX bI ⟨#[]⟩ 0 0 0) 36):=(nR HY.out (by simp[go_sem])).trans (by rfl)
 have hB2:Below w.heap.size w (putRow U g 4 (aJ s x.n)):=Go.WW.Below.putRow hB1 (by omega)
 generalize putRow U g 4 (aJ s x.n)=S1 at *
 have HB2:=Lib.hid hB2
 clear hcp hc hf hr hl hc2 hf2 hr2 hl2 hB1 hB2 HX HY
 refine(wz s x.n _ (hx.1.later HB2.out)).mono ?_
 rintro e U2 ⟨rfl,hb2⟩
 have hxT:=(hb2.block _ (Array.getElem?_eq_some_iff.1 hxs).1).trans hxs
 have jZ:=(hb2.block _ (Array.getElem?_eq_some_iff.1 hys).1).trans hys
 have HB3:=Lib.hid (af HB2.out hb2)
 clear hb2 hxs hys
 cases hv:aY x.n
 ·clear hxT jZ
  go_wp2_with fail
  go_ret
  exact⟨by rw[HR.out,rZ (by rw[HK.out,hv])];rfl,HB3.out⟩
 have HV:=Lib.hid (show kindOk x=true by rw[HK.out,hv])
 clear hv
 have hrx:=lu hxT (wK x.i x.t x.m x.k s x.n r x.d x.q x.pn x.f x.a x.b)
 have lZ:=lu jZ (by simp[go_sem]:(aj x.i x.t x.m x.k s x.n bz aX bI ⟨#[]⟩ 0 0 0).size=37)
 clear hxT jZ
 go_wp2_with fail
 rw[←sH.out]
 refine(wR x (dX x) s (gB x s) r (gG x r) _ (hx.later HB3.out) (HU.out.later HB3.out)).mono ?_
 rintro e Z ⟨rfl,hbz⟩
 have HZ:=Lib.hid (af HB3.out hbz)
 clear hrx lZ hbz
 go_wp2_with fail
 go_ret
 exact⟨by rw[HR.out,BL HG.out HV.out];rfl,HZ.out⟩
theorem afH(x:aT)(s:Sl)(r:aC)(w:World)(hx:dV w s r x)(hr:bD x=true)(hk:x.k=3):Calls Tryz.prog 7 #[.agg (aH x s r)] w fun e w'=>e=.returned (.bool (cZ x))∧Below w.heap.size w w':=by
 obtain⟨R,hR⟩:∃R,R=cZ x:=⟨_,rfl⟩
 rw[←hR]
 have HR:=Lib.hid hR
 have HK:=Lib.hid (TS hk)
 have HG:=Lib.hid hr
 have HU:=Lib.hid (oO hx)
 have sH:=Lib.hid (TM s r hk)
 have hB0:Below w.heap.size w (w.alloc (.cells (aj x.i x.t x.m x.k s x.n r x.d x.q x.pn x.f x.a x.b) 36)):=az (Below.refl _ _) _
 have h1:ag x.i 1 1099511627776=true:=by unfold bD at hr;simp at hr;exact hr.1
 have h2:ag x.t 1 2147483648=true:=by unfold bD at hr;simp at hr;exact hr.2.1
 have h3:ag x.m 0 1099511627776=true:=by unfold bD at hr;simp at hr;exact hr.2.2
 have e1:(x.k == 1)=false:=by simp[hk]
 have e2:(x.k == 2)=false:=by simp[hk]
 have e3:(x.k == 3)=true:=by simp[hk]
 clear hR hr hk
 unfold aH
 go_enter Tryz.func7,Tryz.ntmps7
 iterate 2 go_step
 apply bK (M:=fun V=>Below w.heap.size w V∧V.heap[w.heap.size]?=some (.cells (aj x.i x.t x.m x.k s x.n r x.d x.q x.pn x.f x.a x.b) 36)∧V.heap.size=w.heap.size+1)
 case h1=>
  go_wp2_with fail
  exact⟨rfl,⟨hB0,World.alloc_heap_new w _,by simp⟩⟩
 rintro V0 ⟨hb0,hx0,hs0⟩
 iterate 3 go_step
 apply bK (M:=fun V=>V=V0)
 case h1=>
  obtain⟨hc,hf,hr,hl⟩:=aN hx0
  go_wp2_with (first|(go_at_call 27;refine(lq _ _ _ _).mono ?_;rintro e w' ⟨rfl,rfl⟩)|(go_at_call 28;refine(mW _ _).mono ?_;rintro e w' ⟨rfl,rfl⟩))
  exact⟨rfl,⟨rfl⟩⟩
 rintro V rfl
 have dI:=Lib.hid (show w.heap.size<V.heap.size by omega)
 clear hs0 h1 h2 h3 hB0
 iterate 3 go_step
 apply bK (M:=fun U=>Below w.heap.size w U∧U.heap[w.heap.size]?=some (.cells (aj x.i x.t x.m x.k s x.n r x.d x.q x.pn x.f x.a x.b) 36)∧U.heap[V.heap.size]?=some (.cells (aj x.i x.t x.m x.k cO dA bz aX bI ⟨#[]⟩ 0 0 0) 36))
 case h1=>
  obtain⟨hc,hf,hr,hl⟩:=aN hx0
  go_wp2_with fail
  have hs:=dI.out
  exact⟨rfl,⟨hb0.alloc (by omega) _,((az (Below.refl _ V) _).block _ hs).trans hx0,World.alloc_heap_new V _⟩⟩
 rintro U ⟨hB1,hx1,hy1⟩
 have hlt:=dI.out
 clear dI hb0 hx0
 generalize V.heap.size=g at *
 have hne:w.heap.size≠g:=by omega
 have hne2:g≠w.heap.size:=by omega
 obtain⟨hc,hf,hr,hl⟩:=aN hx1
 obtain⟨hc2,hf2,hr2,hl2⟩:=aN hy1
 have HX:=Lib.hid hx1
 have HY:=Lib.hid hy1
 clear hx1 hy1
 have hcp:aS U g 23 10=true:=nS HY.out (by simp[go_sem])
 go_wp2_with fail
 have hxs:(putRow U g 23 (bZ x.q)).heap[w.heap.size]?=some (.cells (aj x.i x.t x.m x.k s x.n r x.d x.q x.pn x.f x.a x.b) 36):=(iP hne).trans HX.out
 have hys:(putRow U g 23 (bZ x.q)).heap[g]?=some (.cells (aj x.i x.t x.m x.k cO dA bz aX x.q ⟨#[]⟩ 0 0 0) 36):=(nR HY.out (by simp[go_sem])).trans (by rfl)
 have hB2:Below w.heap.size w (putRow U g 23 (bZ x.q)):=Go.WW.Below.putRow hB1 (by omega)
 generalize putRow U g 23 (bZ x.q)=S1 at *
 have HB2:=Lib.hid hB2
 clear hcp hc hf hr hl hc2 hf2 hr2 hl2 hB1 hB2 HX HY
 refine(PM x.q _ hx.2.2.1).mono ?_
 rintro e U2 ⟨rfl,hb2⟩
 have hxT:=(hb2.block _ (Array.getElem?_eq_some_iff.1 hxs).1).trans hxs
 have jZ:=(hb2.block _ (Array.getElem?_eq_some_iff.1 hys).1).trans hys
 have HB3:=Lib.hid (af HB2.out hb2)
 clear hb2 hxs hys
 cases hv:eX x.q
 ·clear hxT jZ
  go_wp2_with fail
  go_ret
  exact⟨by rw[HR.out,rZ (by rw[HK.out,hv])];rfl,HB3.out⟩
 have HV:=Lib.hid (show kindOk x=true by rw[HK.out,hv])
 clear hv
 have hrx:=lu hxT (wK x.i x.t x.m x.k s x.n r x.d x.q x.pn x.f x.a x.b)
 have lZ:=lu jZ (by simp[go_sem]:(aj x.i x.t x.m x.k cO dA bz aX x.q ⟨#[]⟩ 0 0 0).size=37)
 clear hxT jZ
 go_wp2_with fail
 rw[←sH.out]
 refine(wR x (dX x) s (gB x s) r (gG x r) _ (hx.later HB3.out) (HU.out.later HB3.out)).mono ?_
 rintro e Z ⟨rfl,hbz⟩
 have HZ:=Lib.hid (af HB3.out hbz)
 clear hrx lZ hbz
 go_wp2_with fail
 go_ret
 exact⟨by rw[HR.out,BL HG.out HV.out];rfl,HZ.out⟩
theorem afI(x:aT)(s:Sl)(r:aC)(w:World)(hx:dV w s r x)(hr:bD x=true)(hk:x.k=4):Calls Tryz.prog 7 #[.agg (aH x s r)] w fun e w'=>e=.returned (.bool (cZ x))∧Below w.heap.size w w':=by
 obtain⟨R,hR⟩:∃R,R=cZ x:=⟨_,rfl⟩
 rw[←hR]
 have HR:=Lib.hid hR
 have HK:=Lib.hid (TT hk)
 have HG:=Lib.hid hr
 have HU:=Lib.hid (oO hx)
 have sH:=Lib.hid (TN s r hk)
 have hB0:Below w.heap.size w (w.alloc (.cells (aj x.i x.t x.m x.k s x.n r x.d x.q x.pn x.f x.a x.b) 36)):=az (Below.refl _ _) _
 have h1:ag x.i 1 1099511627776=true:=by unfold bD at hr;simp at hr;exact hr.1
 have h2:ag x.t 1 2147483648=true:=by unfold bD at hr;simp at hr;exact hr.2.1
 have h3:ag x.m 0 1099511627776=true:=by unfold bD at hr;simp at hr;exact hr.2.2
 have e1:(x.k == 1)=false:=by simp[hk]
 have e2:(x.k == 2)=false:=by simp[hk]
 have e3:(x.k == 3)=false:=by simp[hk]
 have e4:(x.k == 4)=true:=by simp[hk]
 clear hR hr hk
 unfold aH
 go_enter Tryz.func7,Tryz.ntmps7
 iterate 2 go_step
 apply bK (M:=fun V=>Below w.heap.size w V∧V.heap[w.heap.size]?=some (.cells (aj x.i x.t x.m x.k s x.n r x.d x.q x.pn x.f x.a x.b) 36)∧V.heap.size=w.heap.size+1)
 case h1=>
  go_wp2_with fail
  exact⟨rfl,⟨hB0,World.alloc_heap_new w _,by simp⟩⟩
 rintro V0 ⟨hb0,hx0,hs0⟩
 iterate 3 go_step
 apply bK (M:=fun V=>V=V0)
 case h1=>
  obtain⟨hc,hf,hr,hl⟩:=aN hx0
  go_wp2_with (first|(go_at_call 27;refine(lq _ _ _ _).mono ?_;rintro e w' ⟨rfl,rfl⟩)|(go_at_call 28;refine(mW _ _).mono ?_;rintro e w' ⟨rfl,rfl⟩))
  exact⟨rfl,⟨rfl⟩⟩
 rintro V rfl
 have dI:=Lib.hid (show w.heap.size<V.heap.size by omega)
 clear hs0 h1 h2 h3 hB0
 iterate 3 go_step
 apply bK (M:=fun U=>Below w.heap.size w U∧U.heap[w.heap.size]?=some (.cells (aj x.i x.t x.m x.k s x.n r x.d x.q x.pn x.f x.a x.b) 36)∧U.heap[V.heap.size]?=some (.cells (aj x.i x.t x.m x.k cO dA bz aX bI ⟨#[]⟩ 0 0 0) 36))
 case h1=>
  obtain⟨hc,hf,hr,hl⟩:=aN hx0
  go_wp2_with fail
  have hs:=dI.out
  exact⟨rfl,⟨hb0.alloc (by omega) _,((az (Below.refl _ V) _).block _ hs).trans hx0,World.alloc_heap_new V _⟩⟩
 rintro U ⟨hB1,hx1,hy1⟩
 have hlt:=dI.out
 clear dI hb0 hx0
 generalize V.heap.size=g at *
 have hne:w.heap.size≠g:=by omega
 have hne2:g≠w.heap.size:=by omega
 obtain⟨hc,hf,hr,hl⟩:=aN hx1
 obtain⟨hc2,hf2,hr2,hl2⟩:=aN hy1
 have HX:=Lib.hid hx1
 have HY:=Lib.hid hy1
 clear hx1 hy1
 go_wp2_with fail
 have hxs:(U.setCell ⟨g,33,none⟩ (.string x.pn)).heap[w.heap.size]?=some (.cells (aj x.i x.t x.m x.k s x.n r x.d x.q x.pn x.f x.a x.b) 36):=(Below.heap_setCell _ _ _ _ hne).trans HX.out
 have hys:(U.setCell ⟨g,33,none⟩ (.string x.pn)).heap[g]?=some (.cells (aj x.i x.t x.m x.k cO dA bz aX bI x.pn 0 0 0) 36):=(jA _ HY.out).trans (by rfl)
 have hB2:Below w.heap.size w (U.setCell ⟨g,33,none⟩ (.string x.pn)):=hB1.setCell (by simp;omega) _
 generalize U.setCell ⟨g,33,none⟩ (.string x.pn)=S1 at *
 have HB2:=Lib.hid hB2
 clear hc hf hr hl hc2 hf2 hr2 hl2 hB1 hB2 HX HY
 refine(afw x.pn _ (le_max hx.2.2.2)).mono ?_
 rintro e U2 ⟨rfl,rfl⟩
 have hxT:=hxs
 have jZ:=hys
 have HB3:=HB2
 clear hxs hys
 cases hv:eQ x.pn
 ·clear hxT jZ
  go_wp2_with fail
  go_ret
  exact⟨by rw[HR.out,rZ (by rw[HK.out,hv])];rfl,HB3.out⟩
 have HV:=Lib.hid (show kindOk x=true by rw[HK.out,hv])
 clear hv
 have hrx:=lu hxT (wK x.i x.t x.m x.k s x.n r x.d x.q x.pn x.f x.a x.b)
 have lZ:=lu jZ (by simp[go_sem]:(aj x.i x.t x.m x.k cO dA bz aX bI x.pn 0 0 0).size=37)
 clear hxT jZ
 go_wp2_with fail
 rw[←sH.out]
 refine(wR x (dX x) s (gB x s) r (gG x r) _ (hx.later HB3.out) (HU.out.later HB3.out)).mono ?_
 rintro e Z ⟨rfl,hbz⟩
 have HZ:=Lib.hid (af HB3.out hbz)
 clear hrx lZ hbz
 go_wp2_with fail
 go_ret
 exact⟨by rw[HR.out,BL HG.out HV.out];rfl,HZ.out⟩
theorem afJ(x:aT)(s:Sl)(r:aC)(w:World)(hr:bD x=true)(n1:x.k≠1)(n2:x.k≠2)(n3:x.k≠3)(n4:x.k≠4)(n5:x.k≠5):Calls Tryz.prog 7 #[.agg (aH x s r)] w fun e w'=>e=.returned (.bool (cZ x))∧Below w.heap.size w w':=by
 obtain⟨R,hR⟩:∃R,R=cZ x:=⟨_,rfl⟩
 rw[←hR]
 have HR:=Lib.hid hR
 have HK:=Lib.hid (TV n1 n2 n3 n4 n5)
 have hB0:Below w.heap.size w (w.alloc (.cells (aj x.i x.t x.m x.k s x.n r x.d x.q x.pn x.f x.a x.b) 36)):=az (Below.refl _ _) _
 have h1:ag x.i 1 1099511627776=true:=by unfold bD at hr;simp at hr;exact hr.1
 have h2:ag x.t 1 2147483648=true:=by unfold bD at hr;simp at hr;exact hr.2.1
 have h3:ag x.m 0 1099511627776=true:=by unfold bD at hr;simp at hr;exact hr.2.2
 have e1:(x.k == 1)=false:=by simp[n1]
 have e2:(x.k == 2)=false:=by simp[n2]
 have e3:(x.k == 3)=false:=by simp[n3]
 have e4:(x.k == 4)=false:=by simp[n4]
 have e5:(x.k == 5)=false:=by simp[n5]
 clear hR hr n1 n2 n3 n4 n5
 unfold aH
 go_enter Tryz.func7,Tryz.ntmps7
 iterate 2 go_step
 apply bK (M:=fun V=>Below w.heap.size w V∧V.heap[w.heap.size]?=some (.cells (aj x.i x.t x.m x.k s x.n r x.d x.q x.pn x.f x.a x.b) 36)∧V.heap.size=w.heap.size+1)
 case h1=>
  go_wp2_with fail
  exact⟨rfl,⟨hB0,World.alloc_heap_new w _,by simp⟩⟩
 rintro V0 ⟨hb0,hx0,hs0⟩
 iterate 3 go_step
 apply bK (M:=fun V=>V=V0)
 case h1=>
  obtain⟨hc,hf,hr,hl⟩:=aN hx0
  go_wp2_with (first|(go_at_call 27;refine(lq _ _ _ _).mono ?_;rintro e w' ⟨rfl,rfl⟩)|(go_at_call 28;refine(mW _ _).mono ?_;rintro e w' ⟨rfl,rfl⟩))
  exact⟨rfl,⟨rfl⟩⟩
 rintro V rfl
 have dI:=Lib.hid (show w.heap.size<V.heap.size by omega)
 clear hs0 h1 h2 h3 hB0
 iterate 3 go_step
 apply bK (M:=fun U=>Below w.heap.size w U∧U.heap[w.heap.size]?=some (.cells (aj x.i x.t x.m x.k s x.n r x.d x.q x.pn x.f x.a x.b) 36)∧U.heap[V.heap.size]?=some (.cells (aj x.i x.t x.m x.k cO dA bz aX bI ⟨#[]⟩ 0 0 0) 36))
 case h1=>
  obtain⟨hc,hf,hr,hl⟩:=aN hx0
  go_wp2_with fail
  have hs:=dI.out
  exact⟨rfl,⟨hb0.alloc (by omega) _,((az (Below.refl _ V) _).block _ hs).trans hx0,World.alloc_heap_new V _⟩⟩
 rintro U ⟨hB1,hx1,hy1⟩
 have hlt:=dI.out
 clear dI hb0 hx0
 generalize V.heap.size=g at *
 have hne:w.heap.size≠g:=by omega
 have hne2:g≠w.heap.size:=by omega
 obtain⟨hc,hf,hr,hl⟩:=aN hx1
 obtain⟨hc2,hf2,hr2,hl2⟩:=aN hy1
 have HX:=Lib.hid hx1
 have HY:=Lib.hid hy1
 clear hx1 hy1
 go_wp2_with fail
 go_ret
 exact⟨by rw[HR.out,rZ HK.out];rfl,hB1⟩
theorem afK(x:aT)(s:Sl)(r:aC)(w:World)(hx:dV w s r x)(hr:bD x=true)(hk:x.k=5):Calls Tryz.prog 7 #[.agg (aH x s r)] w fun e w'=>e=.returned (.bool (cZ x))∧Below w.heap.size w w':=by
 obtain⟨R,hR⟩:∃R,R=cZ x:=⟨_,rfl⟩
 rw[←hR]
 have HR:=Lib.hid hR
 have HK:=Lib.hid (TU hk)
 have HG:=Lib.hid hr
 have HU:=Lib.hid (oO hx)
 have sH:=Lib.hid (TP s r hk)
 have hB0:Below w.heap.size w (w.alloc (.cells (aj x.i x.t x.m x.k s x.n r x.d x.q x.pn x.f x.a x.b) 36)):=az (Below.refl _ _) _
 have h1:ag x.i 1 1099511627776=true:=by unfold bD at hr;simp at hr;exact hr.1
 have h2:ag x.t 1 2147483648=true:=by unfold bD at hr;simp at hr;exact hr.2.1
 have h3:ag x.m 0 1099511627776=true:=by unfold bD at hr;simp at hr;exact hr.2.2
 have e1:(x.k == 1)=false:=by simp[hk]
 have e2:(x.k == 2)=false:=by simp[hk]
 have e3:(x.k == 3)=false:=by simp[hk]
 have e4:(x.k == 4)=false:=by simp[hk]
 have e5:(x.k == 5)=true:=by simp[hk]
 clear hR hr hk
 unfold aH
 go_enter Tryz.func7,Tryz.ntmps7
 iterate 2 go_step
 apply bK (M:=fun V=>Below w.heap.size w V∧V.heap[w.heap.size]?=some (.cells (aj x.i x.t x.m x.k s x.n r x.d x.q x.pn x.f x.a x.b) 36)∧V.heap.size=w.heap.size+1)
 case h1=>
  go_wp2_with fail
  exact⟨rfl,⟨hB0,World.alloc_heap_new w _,by simp⟩⟩
 rintro V0 ⟨hb0,hx0,hs0⟩
 iterate 3 go_step
 apply bK (M:=fun V=>V=V0)
 case h1=>
  obtain⟨hc,hf,hr,hl⟩:=aN hx0
  go_wp2_with (first|(go_at_call 27;refine(lq _ _ _ _).mono ?_;rintro e w' ⟨rfl,rfl⟩)|(go_at_call 28;refine(mW _ _).mono ?_;rintro e w' ⟨rfl,rfl⟩))
  exact⟨rfl,⟨rfl⟩⟩
 rintro V rfl
 have dI:=Lib.hid (show w.heap.size<V.heap.size by omega)
 clear hs0 h1 h2 h3 hB0
 iterate 3 go_step
 apply bK (M:=fun U=>Below w.heap.size w U∧U.heap[w.heap.size]?=some (.cells (aj x.i x.t x.m x.k s x.n r x.d x.q x.pn x.f x.a x.b) 36)∧U.heap[V.heap.size]?=some (.cells (aj x.i x.t x.m x.k cO dA bz aX bI ⟨#[]⟩ 0 0 0) 36))
 case h1=>
  obtain⟨hc,hf,hr,hl⟩:=aN hx0
  go_wp2_with fail
  have hs:=dI.out
  exact⟨rfl,⟨hb0.alloc (by omega) _,((az (Below.refl _ V) _).block _ hs).trans hx0,World.alloc_heap_new V _⟩⟩
 rintro U ⟨hB1,hx1,hy1⟩
 have hlt:=dI.out
 clear dI hb0 hx0
 generalize V.heap.size=g at *
 have hne:w.heap.size≠g:=by omega
 have hne2:g≠w.heap.size:=by omega
 obtain⟨hc,hf,hr,hl⟩:=aN hx1
 obtain⟨hc2,hf2,hr2,hl2⟩:=aN hy1
 have HX:=Lib.hid hx1
 have HY:=Lib.hid hy1
 clear hx1 hy1
 have hcp:aS U g 4 2=true:=nS HY.out (by simp[go_sem])
 have nb:¬one g w.heap.size:=Kt hne
 go_wp2_with fail
 refine Ua (one g) (But.refl _ U) (by kernel_rfl) (by kernel_rfl) ?_
 iterate 9 (refine wU (by kernel_rfl) (by kernel_rfl) (fun K hK=>?_);go_big_quiet_op;refine hK _ ?_;clear hK K)
 refine wV (by rfl) (by rfl) (fun K hK=>?_)
 go_wp2_with fail
 have q1:But (one g) U (putRow U.drew g 4 (aJ s x.n)):=afD (But.refl _ U).drew rfl
 have y1:(putRow U.drew g 4 (aJ s x.n)).heap[g]?=some (.cells (aj x.i x.t x.m x.k s x.n bz aX bI ⟨#[]⟩ 0 0 0) 36):=(nR (w:=U.drew) HY.out (by simp[go_sem])).trans (by rfl)
 refine hK _ _ (wW q1) ?_
 clear hK K
 generalize putRow U.drew g 4 (aJ s x.n)=A1 at *
 clear hcp hc2 hf2 hr2 hl2
 obtain⟨hc2,hf2,hr2,hl2⟩:=aN y1
 iterate 1 (refine wU (by kernel_rfl) (by kernel_rfl) (fun K hK=>?_);go_big_quiet_op;refine hK _ ?_;clear hK K)
 refine wV (by rfl) (by rfl) (fun K hK=>?_)
 go_wp2_with fail
 have q2:But (one g) U (A1.setCell ⟨g,34,none⟩ (.int .i64 x.f)):=q1.trans ⟨rfl,rfl,rfl,by simp[World.setCell],fun k _ hn=>Below.heap_setCell _ _ _ _ hn⟩
 have y2:(A1.setCell ⟨g,34,none⟩ (.int .i64 x.f)).heap[g]?=some (.cells (aj x.i x.t x.m x.k s x.n bz aX bI ⟨#[]⟩ x.f 0 0) 36):=(jA _ y1).trans (by rfl)
 refine hK _ _ (wW q2) ?_
 clear hK K
 generalize A1.setCell ⟨g,34,none⟩ (.int .i64 x.f)=A2 at *
 clear hc2 hf2 hr2 hl2 q1 y1
 obtain⟨hc2,hf2,hr2,hl2⟩:=aN y2
 iterate 1 (refine wU (by kernel_rfl) (by kernel_rfl) (fun K hK=>?_);go_big_quiet_op;refine hK _ ?_;clear hK K)
 refine wV (by rfl) (by rfl) (fun K hK=>?_)
 go_wp2_with fail
 have q3:But (one g) U (A2.setCell ⟨g,35,none⟩ (.int .i64 x.a)):=q2.trans ⟨rfl,rfl,rfl,by simp[World.setCell],fun k _ hn=>Below.heap_setCell _ _ _ _ hn⟩
 have y3:(A2.setCell ⟨g,35,none⟩ (.int .i64 x.a)).heap[g]?=some (.cells (aj x.i x.t x.m x.k s x.n bz aX bI ⟨#[]⟩ x.f x.a 0) 36):=(jA _ y2).trans (by rfl)
 refine hK _ _ (wW q3) ?_
 clear hK K
 generalize A2.setCell ⟨g,35,none⟩ (.int .i64 x.a)=A3 at *
 clear hc2 hf2 hr2 hl2 q2 y2
 obtain⟨hc2,hf2,hr2,hl2⟩:=aN y3
 iterate 1 (refine wU (by kernel_rfl) (by kernel_rfl) (fun K hK=>?_);go_big_quiet_op;refine hK _ ?_;clear hK K)
 refine wV (by rfl) (by rfl) (fun K hK=>?_)
 go_wp2_with fail
 have q4:But (one g) U (A3.setCell ⟨g,36,none⟩ (.int .i64 x.b)):=q3.trans ⟨rfl,rfl,rfl,by simp[World.setCell],fun k _ hn=>Below.heap_setCell _ _ _ _ hn⟩
 have y4:(A3.setCell ⟨g,36,none⟩ (.int .i64 x.b)).heap[g]?=some (.cells (aj x.i x.t x.m x.k s x.n bz aX bI ⟨#[]⟩ x.f x.a x.b) 36):=(jA _ y3).trans (by rfl)
 refine hK _ _ (wW q4) ?_
 clear hK K
 generalize A3.setCell ⟨g,36,none⟩ (.int .i64 x.b)=A4 at *
 clear hc2 hf2 hr2 hl2 q3 y3
 refine iH ?_
 have x4:=(q4.block _ hl nb).trans HX.out
 have HB2:=Lib.hid (((But.of_below (S:=fun k=>w.heap.size≤k) hB1).trans (q4.mono fun k (hk:k=g)=>hk▸(show w.heap.size≤g by omega))).below (Nat.le_refl _) fun k hk=>hk)
 clear hc hf hr hl q4 nb HX HY hB1
 obtain⟨hc,hf,hr,hl⟩:=aN x4
 go_wp2_with fail
 refine(wz s x.n _ (hx.1.later HB2.out)).mono ?_
 rintro e U2 ⟨rfl,hb2⟩
 have hxT:=(hb2.block _ (Array.getElem?_eq_some_iff.1 x4).1).trans x4
 have jZ:=(hb2.block _ (Array.getElem?_eq_some_iff.1 y4).1).trans y4
 have HB3:=Lib.hid (af HB2.out hb2)
 clear hc hf hr hl hb2 x4 y4
 obtain⟨hc,hf,hr,hl⟩:=aN hxT
 have HY:=Lib.hid jZ
 have HX:=Lib.hid hxT
 clear hxT jZ
 cases v1:aY x.n
 ·go_wp2_with (first|(go_at_call 27;refine(lq _ _ _ _).mono ?_;rintro e w' ⟨rfl,rfl⟩)|(go_at_call 28;refine(mW _ _).mono ?_;rintro e w' ⟨rfl,rfl⟩))
  go_ret
  exact⟨by rw[HR.out,rZ (by rw[HK.out,v1];rfl)];rfl,HB3.out⟩
 cases v2:ag x.f 0 65535
 ·go_wp2_with (first|(go_at_call 27;refine(lq _ _ _ _).mono ?_;rintro e w' ⟨rfl,rfl⟩)|(go_at_call 28;refine(mW _ _).mono ?_;rintro e w' ⟨rfl,rfl⟩))
  go_ret
  exact⟨by rw[HR.out,rZ (by rw[HK.out,v1,v2];rfl)];rfl,HB3.out⟩
 cases v3:ag x.a 0 1099511627776
 ·go_wp2_with (first|(go_at_call 27;refine(lq _ _ _ _).mono ?_;rintro e w' ⟨rfl,rfl⟩)|(go_at_call 28;refine(mW _ _).mono ?_;rintro e w' ⟨rfl,rfl⟩))
  go_ret
  exact⟨by rw[HR.out,rZ (by rw[HK.out,v1,v2,v3];rfl)];rfl,HB3.out⟩
 cases v4:ag x.b 0 1099511627776
 ·go_wp2_with (first|(go_at_call 27;refine(lq _ _ _ _).mono ?_;rintro e w' ⟨rfl,rfl⟩)|(go_at_call 28;refine(mW _ _).mono ?_;rintro e w' ⟨rfl,rfl⟩))
  go_ret
  exact⟨by rw[HR.out,rZ (by rw[HK.out,v1,v2,v3,v4];rfl)];rfl,HB3.out⟩
 have HV:=Lib.hid (show kindOk x=true by rw[HK.out,v1,v2,v3,v4];rfl)
 have hrx:=lu HX.out (wK x.i x.t x.m x.k s x.n r x.d x.q x.pn x.f x.a x.b)
 have lZ:=lu HY.out (by simp[go_sem]:(aj x.i x.t x.m x.k s x.n bz aX bI ⟨#[]⟩ x.f x.a x.b).size=37)
 go_wp2_with (first|(go_at_call 27;refine(lq _ _ _ _).mono ?_;rintro e w' ⟨rfl,rfl⟩)|(go_at_call 28;refine(mW _ _).mono ?_;rintro e w' ⟨rfl,rfl⟩))
 rw[←sH.out]
 refine(wR x (dX x) s (gB x s) r (gG x r) _ (hx.later HB3.out) (HU.out.later HB3.out)).mono ?_
 rintro e Z ⟨rfl,hbz⟩
 have HZ:=Lib.hid (af HB3.out hbz)
 clear hrx lZ hbz
 go_wp2_with fail
 go_ret
 exact⟨by rw[HR.out,BL HG.out HV.out];rfl,HZ.out⟩
theorem Ku(x:aT)(s:Sl)(r:aC)(w:World)(hx:dV w s r x):Calls Tryz.prog 7 #[.agg (aH x s r)] w fun e w'=>e=.returned (.bool (cZ x))∧Below w.heap.size w w':=by
 cases hr:bD x
 ·exact afE x s r w hr
 by_cases n1:x.k=1
 ·exact afF x s r w hx hr n1
 by_cases n2:x.k=2
 ·exact afG x s r w hx hr n2
 by_cases n3:x.k=3
 ·exact afH x s r w hx hr n3
 by_cases n4:x.k=4
 ·exact afI x s r w hx hr n4
 by_cases n5:x.k=5
 ·exact afK x s r w hx hr n5
 exact afJ x s r w hr n1 n2 n3 n4 n5
end Go.Proofs.YtibhckkjciflaaaGreatDoor
