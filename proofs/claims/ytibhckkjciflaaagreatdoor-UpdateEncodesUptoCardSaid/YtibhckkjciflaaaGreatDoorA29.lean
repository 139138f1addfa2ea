/- A part of the proof. -/
import Derived.Test.YtibhckkjciflaaaGreatDoorA28
set_option maxRecDepth 100000
set_option maxHeartbeats 4000000
namespace Go.Proofs.YtibhckkjciflaaaGreatDoor
open Go.RowKit Go.WW
theorem afL{w:World}{b o n:Nat}(h:aS w b o n=true):b<w.heap.size:=by
 obtain⟨c,t,hb,_⟩:=uj h
 exact(Array.getElem?_eq_some_iff.1 hb).1
theorem afM(x:aT)(s:Sl)(r:aC)(w:World)(n1:x.k≠1)(n2:x.k≠2)(n3:x.k≠3)(n4:x.k≠4)(n5:x.k≠5):Calls Tryz.prog 34 #[.agg (aH x s r)] w fun e w'=>e=.returned (.agg (aH (dX x) (gB x s) (gG x r)))∧Below w.heap.size w w':=by
 rw[afj s r n1 n2 n3 n4 n5]
 have e1:(x.k == 1)=false:=by simp[n1]
 have e2:(x.k == 2)=false:=by simp[n2]
 have e3:(x.k == 3)=false:=by simp[n3]
 have e4:(x.k == 4)=false:=by simp[n4]
 have e5:(x.k == 5)=false:=by simp[n5]
 clear n1 n2 n3 n4 n5
 unfold aH
 go_enter Tryz.func34,Tryz.ntmps34
 iterate 2 go_step
 apply bK (M:=fun V=>Below w.heap.size w V∧V.heap[w.heap.size]?=some (.cells (aj x.i x.t x.m x.k s x.n r x.d x.q x.pn x.f x.a x.b) 36)∧aS V (w.heap.size+1) 0 37=true∧w.heap.size+1<V.heap.size)
 case h1=>
  go_wp2_with fail
  exact⟨rfl,⟨az (az (Below.refl _ w) _) _,oK w _ _,by simp[go_sem],by simp⟩⟩
 rintro V ⟨hb0,hx0,hz0,hs0⟩
 have dI:=Lib.hid hs0
 have HZ0:=Lib.hid hz0
 clear hs0 hz0
 iterate 3 go_step
 apply bK (M:=fun U=>Below w.heap.size w U∧U.heap[w.heap.size]?=some (.cells (aj x.i x.t x.m x.k s x.n r x.d x.q x.pn x.f x.a x.b) 36)∧U.heap[V.heap.size]?=some (.cells (aj x.i x.t x.m x.k cO dA bz aX bI ⟨#[]⟩ 0 0 0) 36)∧aS U (w.heap.size+1) 0 37=true)
 case h1=>
  obtain⟨hc,hf,hr,hl⟩:=aN hx0
  go_wp2_with fail
  have hs:=dI.out
  have hb:=az (Below.refl _ V) (.cells (aj x.i x.t x.m x.k cO dA bz aX bI ⟨#[]⟩ 0 0 0) 36)
  exact⟨rfl,⟨hb0.alloc (by omega) _,(hb.block _ (by omega)).trans hx0,World.alloc_heap_new V _,(jJ hb _ _ _ hs).trans HZ0.out⟩⟩
 rintro U ⟨hB1,hx1,hy1,hz1⟩
 have hlt:=dI.out
 clear dI HZ0 hb0 hx0
 generalize V.heap.size=g at *
 have hne:w.heap.size≠g:=by omega
 have hne2:g≠w.heap.size:=by omega
 have mX:w.heap.size+1≠g:=by omega
 obtain⟨hc,hf,hr,hl⟩:=aN hx1
 obtain⟨hc2,hf2,hr2,hl2⟩:=aN hy1
 have HX:=Lib.hid hx1
 have HY:=Lib.hid hy1
 have HZ:=Lib.hid hz1
 clear hx1 hy1 hz1
 iterate 3 go_step
 apply bK (M:=fun Y=>Y=U)
 case h1=>
  go_wp2_with fail
  exact⟨rfl,⟨rfl⟩⟩
 rintro U' rfl
 iterate 3 go_step
 apply bK (M:=fun Y=>Y=U')
 case h1=>
  go_wp2_with fail
  exact⟨rfl,⟨rfl⟩⟩
 rintro BM rfl
 iterate 3 go_step
 apply bK (M:=fun Y=>Y=BM)
 case h1=>
  go_wp2_with fail
  exact⟨rfl,⟨rfl⟩⟩
 rintro Ub rfl
 iterate 3 go_step
 apply bK (M:=fun Y=>Y=Ub)
 case h1=>
  go_wp2_with fail
  exact⟨rfl,⟨rfl⟩⟩
 rintro afN rfl
 iterate 3 go_step
 apply bK (M:=fun Y=>Y=afN)
 case h1=>
  go_wp2_with fail
  exact⟨rfl,⟨rfl⟩⟩
 rintro amU rfl
 have lZ:=lu HY.out (by simp[go_sem]:(aj x.i x.t x.m x.k cO dA bz aX bI ⟨#[]⟩ 0 0 0).size=37)
 have hz:=HZ.out
 go_wp2_with fail
 have hrow:=ql (by simp[go_sem]:(aj x.i x.t x.m x.k cO dA bz aX bI ⟨#[]⟩ 0 0 0).size=37) hz
 exact bodyPost_ret (uI (by rfl) Tryz.underlying36 rfl (by kernel_rfl) rfl hrow) rfl ⟨rfl,Go.WW.Below.putRow hB1 (by omega)⟩
theorem afO(x:aT)(s:Sl)(r:aC)(w:World)(hk:x.k=1):Calls Tryz.prog 34 #[.agg (aH x s r)] w fun e w'=>e=.returned (.agg (aH (dX x) (gB x s) (gG x r)))∧Below w.heap.size w w':=by
 rw[TK s r hk]
 have e1:(x.k == 1)=true:=by simp[hk]
 have e2:(x.k == 2)=false:=by simp[hk]
 have e3:(x.k == 3)=false:=by simp[hk]
 have e4:(x.k == 4)=false:=by simp[hk]
 have e5:(x.k == 5)=false:=by simp[hk]
 clear hk
 unfold aH
 go_enter Tryz.func34,Tryz.ntmps34
 iterate 2 go_step
 apply bK (M:=fun V=>Below w.heap.size w V∧V.heap[w.heap.size]?=some (.cells (aj x.i x.t x.m x.k s x.n r x.d x.q x.pn x.f x.a x.b) 36)∧aS V (w.heap.size+1) 0 37=true∧w.heap.size+1<V.heap.size)
 case h1=>
  go_wp2_with fail
  exact⟨rfl,⟨az (az (Below.refl _ w) _) _,oK w _ _,by simp[go_sem],by simp⟩⟩
 rintro V ⟨hb0,hx0,hz0,hs0⟩
 have dI:=Lib.hid hs0
 have HZ0:=Lib.hid hz0
 clear hs0 hz0
 iterate 3 go_step
 apply bK (M:=fun U=>Below w.heap.size w U∧U.heap[w.heap.size]?=some (.cells (aj x.i x.t x.m x.k s x.n r x.d x.q x.pn x.f x.a x.b) 36)∧U.heap[V.heap.size]?=some (.cells (aj x.i x.t x.m x.k cO dA bz aX bI ⟨#[]⟩ 0 0 0) 36)∧aS U (w.heap.size+1) 0 37=true)
 case h1=>
  obtain⟨hc,hf,hr,hl⟩:=aN hx0
  go_wp2_with fail
  have hs:=dI.out
  have hb:=az (Below.refl _ V) (.cells (aj x.i x.t x.m x.k cO dA bz aX bI ⟨#[]⟩ 0 0 0) 36)
  exact⟨rfl,⟨hb0.alloc (by omega) _,(hb.block _ (by omega)).trans hx0,World.alloc_heap_new V _,(jJ hb _ _ _ hs).trans HZ0.out⟩⟩
 rintro U ⟨hB1,hx1,hy1,hz1⟩
 have hlt:=dI.out
 clear dI HZ0 hb0 hx0
 generalize V.heap.size=g at *
 have hne:w.heap.size≠g:=by omega
 have hne2:g≠w.heap.size:=by omega
 have mX:w.heap.size+1≠g:=by omega
 obtain⟨hc,hf,hr,hl⟩:=aN hx1
 obtain⟨hc2,hf2,hr2,hl2⟩:=aN hy1
 have HX:=Lib.hid hx1
 have HY:=Lib.hid hy1
 have HZ:=Lib.hid hz1
 clear hx1 hy1 hz1
 iterate 3 go_step
 apply bK (M:=fun Y=>Below w.heap.size w Y∧Y.heap[w.heap.size]?=some (.cells (aj x.i x.t x.m x.k s x.n r x.d x.q x.pn x.f x.a x.b) 36)∧Y.heap[g]?=some (.cells (aj x.i x.t x.m x.k cO dA r x.d bI ⟨#[]⟩ 0 0 0) 36)∧aS Y (w.heap.size+1) 0 37=true)
 case h1=>
  have hcp:aS U g 6 17=true:=nS HY.out (by simp[go_sem])
  go_wp2_with fail
  exact⟨rfl,⟨Go.WW.Below.putRow hB1 (by omega),(iP hne).trans HX.out,(nR HY.out (by simp[go_sem])).trans (by rfl),(qX mX).trans HZ.out⟩⟩
 clear hB1 hc hf hr hl hc2 hf2 hr2 hl2 HX HY HZ
 rintro W1 ⟨hB1,hx1,hy1,hz1⟩
 obtain⟨hc,hf,hr,hl⟩:=aN hx1
 obtain⟨hc2,hf2,hr2,hl2⟩:=aN hy1
 have HX:=Lib.hid hx1
 have HY:=Lib.hid hy1
 have HZ:=Lib.hid hz1
 clear hx1 hy1 hz1
 iterate 3 go_step
 apply bK (M:=fun Y=>Y=W1)
 case h1=>
  go_wp2_with fail
  exact⟨rfl,⟨rfl⟩⟩
 rintro W1' rfl
 iterate 3 go_step
 apply bK (M:=fun Y=>Y=W1')
 case h1=>
  go_wp2_with fail
  exact⟨rfl,⟨rfl⟩⟩
 rintro afP rfl
 iterate 3 go_step
 apply bK (M:=fun Y=>Y=afP)
 case h1=>
  go_wp2_with fail
  exact⟨rfl,⟨rfl⟩⟩
 rintro afQ rfl
 iterate 3 go_step
 apply bK (M:=fun Y=>Y=afQ)
 case h1=>
  go_wp2_with fail
  exact⟨rfl,⟨rfl⟩⟩
 rintro amV rfl
 have lZ:=lu HY.out (by simp[go_sem]:(aj x.i x.t x.m x.k cO dA r x.d bI ⟨#[]⟩ 0 0 0).size=37)
 have hz:=HZ.out
 go_wp2_with fail
 have hrow:=ql (by simp[go_sem]:(aj x.i x.t x.m x.k cO dA r x.d bI ⟨#[]⟩ 0 0 0).size=37) hz
 exact bodyPost_ret (uI (by rfl) Tryz.underlying36 rfl (by kernel_rfl) rfl hrow) rfl ⟨rfl,Go.WW.Below.putRow hB1 (by omega)⟩
theorem afR(x:aT)(s:Sl)(r:aC)(w:World)(hk:x.k=2):Calls Tryz.prog 34 #[.agg (aH x s r)] w fun e w'=>e=.returned (.agg (aH (dX x) (gB x s) (gG x r)))∧Below w.heap.size w w':=by
 rw[TL s r hk]
 have e1:(x.k == 1)=false:=by simp[hk]
 have e2:(x.k == 2)=true:=by simp[hk]
 have e3:(x.k == 3)=false:=by simp[hk]
 have e4:(x.k == 4)=false:=by simp[hk]
 have e5:(x.k == 5)=false:=by simp[hk]
 clear hk
 unfold aH
 go_enter Tryz.func34,Tryz.ntmps34
 iterate 2 go_step
 apply bK (M:=fun V=>Below w.heap.size w V∧V.heap[w.heap.size]?=some (.cells (aj x.i x.t x.m x.k s x.n r x.d x.q x.pn x.f x.a x.b) 36)∧aS V (w.heap.size+1) 0 37=true∧w.heap.size+1<V.heap.size)
 case h1=>
  go_wp2_with fail
  exact⟨rfl,⟨az (az (Below.refl _ w) _) _,oK w _ _,by simp[go_sem],by simp⟩⟩
 rintro V ⟨hb0,hx0,hz0,hs0⟩
 have dI:=Lib.hid hs0
 have HZ0:=Lib.hid hz0
 clear hs0 hz0
 iterate 3 go_step
 apply bK (M:=fun U=>Below w.heap.size w U∧U.heap[w.heap.size]?=some (.cells (aj x.i x.t x.m x.k s x.n r x.d x.q x.pn x.f x.a x.b) 36)∧U.heap[V.heap.size]?=some (.cells (aj x.i x.t x.m x.k cO dA bz aX bI ⟨#[]⟩ 0 0 0) 36)∧aS U (w.heap.size+1) 0 37=true)
 case h1=>
  obtain⟨hc,hf,hr,hl⟩:=aN hx0
  go_wp2_with fail
  have hs:=dI.out
  have hb:=az (Below.refl _ V) (.cells (aj x.i x.t x.m x.k cO dA bz aX bI ⟨#[]⟩ 0 0 0) 36)
  exact⟨rfl,⟨hb0.alloc (by omega) _,(hb.block _ (by omega)).trans hx0,World.alloc_heap_new V _,(jJ hb _ _ _ hs).trans HZ0.out⟩⟩
 rintro U ⟨hB1,hx1,hy1,hz1⟩
 have hlt:=dI.out
 clear dI HZ0 hb0 hx0
 generalize V.heap.size=g at *
 have hne:w.heap.size≠g:=by omega
 have hne2:g≠w.heap.size:=by omega
 have mX:w.heap.size+1≠g:=by omega
 obtain⟨hc,hf,hr,hl⟩:=aN hx1
 obtain⟨hc2,hf2,hr2,hl2⟩:=aN hy1
 have HX:=Lib.hid hx1
 have HY:=Lib.hid hy1
 have HZ:=Lib.hid hz1
 clear hx1 hy1 hz1
 iterate 3 go_step
 apply bK (M:=fun Y=>Y=U)
 case h1=>
  go_wp2_with fail
  exact⟨rfl,⟨rfl⟩⟩
 rintro U' rfl
 iterate 3 go_step
 apply bK (M:=fun Y=>Below w.heap.size w Y∧Y.heap[w.heap.size]?=some (.cells (aj x.i x.t x.m x.k s x.n r x.d x.q x.pn x.f x.a x.b) 36)∧Y.heap[g]?=some (.cells (aj x.i x.t x.m x.k s x.n bz aX bI ⟨#[]⟩ 0 0 0) 36)∧aS Y (w.heap.size+1) 0 37=true)
 case h1=>
  have hcp:aS U' g 4 2=true:=nS HY.out (by simp[go_sem])
  go_wp2_with fail
  exact⟨rfl,⟨Go.WW.Below.putRow hB1 (by omega),(iP hne).trans HX.out,(nR HY.out (by simp[go_sem])).trans (by rfl),(qX mX).trans HZ.out⟩⟩
 clear hB1 hc hf hr hl hc2 hf2 hr2 hl2 HX HY HZ
 rintro W2 ⟨hB1,hx1,hy1,hz1⟩
 obtain⟨hc,hf,hr,hl⟩:=aN hx1
 obtain⟨hc2,hf2,hr2,hl2⟩:=aN hy1
 have HX:=Lib.hid hx1
 have HY:=Lib.hid hy1
 have HZ:=Lib.hid hz1
 clear hx1 hy1 hz1
 iterate 3 go_step
 apply bK (M:=fun Y=>Y=W2)
 case h1=>
  go_wp2_with fail
  exact⟨rfl,⟨rfl⟩⟩
 rintro Kv rfl
 iterate 3 go_step
 apply bK (M:=fun Y=>Y=Kv)
 case h1=>
  go_wp2_with fail
  exact⟨rfl,⟨rfl⟩⟩
 rintro pO rfl
 iterate 3 go_step
 apply bK (M:=fun Y=>Y=pO)
 case h1=>
  go_wp2_with fail
  exact⟨rfl,⟨rfl⟩⟩
 rintro amW rfl
 have lZ:=lu HY.out (by simp[go_sem]:(aj x.i x.t x.m x.k s x.n bz aX bI ⟨#[]⟩ 0 0 0).size=37)
 have hz:=HZ.out
 go_wp2_with fail
 have hrow:=ql (by simp[go_sem]:(aj x.i x.t x.m x.k s x.n bz aX bI ⟨#[]⟩ 0 0 0).size=37) hz
 exact bodyPost_ret (uI (by rfl) Tryz.underlying36 rfl (by kernel_rfl) rfl hrow) rfl ⟨rfl,Go.WW.Below.putRow hB1 (by omega)⟩
theorem afS(x:aT)(s:Sl)(r:aC)(w:World)(hk:x.k=3):Calls Tryz.prog 34 #[.agg (aH x s r)] w fun e w'=>e=.returned (.agg (aH (dX x) (gB x s) (gG x r)))∧Below w.heap.size w w':=by
 rw[TM s r hk]
 have e1:(x.k == 1)=false:=by simp[hk]
 have e2:(x.k == 2)=false:=by simp[hk]
 have e3:(x.k == 3)=true:=by simp[hk]
 have e4:(x.k == 4)=false:=by simp[hk]
 have e5:(x.k == 5)=false:=by simp[hk]
 clear hk
 unfold aH
 go_enter Tryz.func34,Tryz.ntmps34
 iterate 2 go_step
 apply bK (M:=fun V=>Below w.heap.size w V∧V.heap[w.heap.size]?=some (.cells (aj x.i x.t x.m x.k s x.n r x.d x.q x.pn x.f x.a x.b) 36)∧aS V (w.heap.size+1) 0 37=true∧w.heap.size+1<V.heap.size)
 case h1=>
  go_wp2_with fail
  exact⟨rfl,⟨az (az (Below.refl _ w) _) _,oK w _ _,by simp[go_sem],by simp⟩⟩
 rintro V ⟨hb0,hx0,hz0,hs0⟩
 have dI:=Lib.hid hs0
 have HZ0:=Lib.hid hz0
 clear hs0 hz0
 iterate 3 go_step
 apply bK (M:=fun U=>Below w.heap.size w U∧U.heap[w.heap.size]?=some (.cells (aj x.i x.t x.m x.k s x.n r x.d x.q x.pn x.f x.a x.b) 36)∧U.heap[V.heap.size]?=some (.cells (aj x.i x.t x.m x.k cO dA bz aX bI ⟨#[]⟩ 0 0 0) 36)∧aS U (w.heap.size+1) 0 37=true)
 case h1=>
  obtain⟨hc,hf,hr,hl⟩:=aN hx0
  go_wp2_with fail
  have hs:=dI.out
  have hb:=az (Below.refl _ V) (.cells (aj x.i x.t x.m x.k cO dA bz aX bI ⟨#[]⟩ 0 0 0) 36)
  exact⟨rfl,⟨hb0.alloc (by omega) _,(hb.block _ (by omega)).trans hx0,World.alloc_heap_new V _,(jJ hb _ _ _ hs).trans HZ0.out⟩⟩
 rintro U ⟨hB1,hx1,hy1,hz1⟩
 have hlt:=dI.out
 clear dI HZ0 hb0 hx0
 generalize V.heap.size=g at *
 have hne:w.heap.size≠g:=by omega
 have hne2:g≠w.heap.size:=by omega
 have mX:w.heap.size+1≠g:=by omega
 obtain⟨hc,hf,hr,hl⟩:=aN hx1
 obtain⟨hc2,hf2,hr2,hl2⟩:=aN hy1
 have HX:=Lib.hid hx1
 have HY:=Lib.hid hy1
 have HZ:=Lib.hid hz1
 clear hx1 hy1 hz1
 iterate 3 go_step
 apply bK (M:=fun Y=>Y=U)
 case h1=>
  go_wp2_with fail
  exact⟨rfl,⟨rfl⟩⟩
 rintro U' rfl
 iterate 3 go_step
 apply bK (M:=fun Y=>Y=U')
 case h1=>
  go_wp2_with fail
  exact⟨rfl,⟨rfl⟩⟩
 rintro BM rfl
 iterate 3 go_step
 apply bK (M:=fun Y=>Below w.heap.size w Y∧Y.heap[w.heap.size]?=some (.cells (aj x.i x.t x.m x.k s x.n r x.d x.q x.pn x.f x.a x.b) 36)∧Y.heap[g]?=some (.cells (aj x.i x.t x.m x.k cO dA bz aX x.q ⟨#[]⟩ 0 0 0) 36)∧aS Y (w.heap.size+1) 0 37=true)
 case h1=>
  have hcp:aS BM g 23 10=true:=nS HY.out (by simp[go_sem])
  go_wp2_with fail
  exact⟨rfl,⟨Go.WW.Below.putRow hB1 (by omega),(iP hne).trans HX.out,(nR HY.out (by simp[go_sem])).trans (by rfl),(qX mX).trans HZ.out⟩⟩
 clear hB1 hc hf hr hl hc2 hf2 hr2 hl2 HX HY HZ
 rintro W3 ⟨hB1,hx1,hy1,hz1⟩
 obtain⟨hc,hf,hr,hl⟩:=aN hx1
 obtain⟨hc2,hf2,hr2,hl2⟩:=aN hy1
 have HX:=Lib.hid hx1
 have HY:=Lib.hid hy1
 have HZ:=Lib.hid hz1
 clear hx1 hy1 hz1
 iterate 3 go_step
 apply bK (M:=fun Y=>Y=W3)
 case h1=>
  go_wp2_with fail
  exact⟨rfl,⟨rfl⟩⟩
 rintro W3' rfl
 iterate 3 go_step
 apply bK (M:=fun Y=>Y=W3')
 case h1=>
  go_wp2_with fail
  exact⟨rfl,⟨rfl⟩⟩
 rintro amX rfl
 have lZ:=lu HY.out (by simp[go_sem]:(aj x.i x.t x.m x.k cO dA bz aX x.q ⟨#[]⟩ 0 0 0).size=37)
 have hz:=HZ.out
 go_wp2_with fail
 have hrow:=ql (by simp[go_sem]:(aj x.i x.t x.m x.k cO dA bz aX x.q ⟨#[]⟩ 0 0 0).size=37) hz
 exact bodyPost_ret (uI (by rfl) Tryz.underlying36 rfl (by kernel_rfl) rfl hrow) rfl ⟨rfl,Go.WW.Below.putRow hB1 (by omega)⟩
theorem afU(x:aT)(s:Sl)(r:aC)(w:World)(hk:x.k=4):Calls Tryz.prog 34 #[.agg (aH x s r)] w fun e w'=>e=.returned (.agg (aH (dX x) (gB x s) (gG x r)))∧Below w.heap.size w w':=by
 rw[TN s r hk]
 have e1:(x.k == 1)=false:=by simp[hk]
 have e2:(x.k == 2)=false:=by simp[hk]
 have e3:(x.k == 3)=false:=by simp[hk]
 have e4:(x.k == 4)=true:=by simp[hk]
 have e5:(x.k == 5)=false:=by simp[hk]
 clear hk
 unfold aH
 go_enter Tryz.func34,Tryz.ntmps34
 iterate 2 go_step
 apply bK (M:=fun V=>Below w.heap.size w V∧V.heap[w.heap.size]?=some (.cells (aj x.i x.t x.m x.k s x.n r x.d x.q x.pn x.f x.a x.b) 36)∧aS V (w.heap.size+1) 0 37=true∧w.heap.size+1<V.heap.size)
 case h1=>
  go_wp2_with fail
  exact⟨rfl,⟨az (az (Below.refl _ w) _) _,oK w _ _,by simp[go_sem],by simp⟩⟩
 rintro V ⟨hb0,hx0,hz0,hs0⟩
 have dI:=Lib.hid hs0
 have HZ0:=Lib.hid hz0
 clear hs0 hz0
 iterate 3 go_step
 apply bK (M:=fun U=>Below w.heap.size w U∧U.heap[w.heap.size]?=some (.cells (aj x.i x.t x.m x.k s x.n r x.d x.q x.pn x.f x.a x.b) 36)∧U.heap[V.heap.size]?=some (.cells (aj x.i x.t x.m x.k cO dA bz aX bI ⟨#[]⟩ 0 0 0) 36)∧aS U (w.heap.size+1) 0 37=true)
 case h1=>
  obtain⟨hc,hf,hr,hl⟩:=aN hx0
  go_wp2_with fail
  have hs:=dI.out
  have hb:=az (Below.refl _ V) (.cells (aj x.i x.t x.m x.k cO dA bz aX bI ⟨#[]⟩ 0 0 0) 36)
  exact⟨rfl,⟨hb0.alloc (by omega) _,(hb.block _ (by omega)).trans hx0,World.alloc_heap_new V _,(jJ hb _ _ _ hs).trans HZ0.out⟩⟩
 rintro U ⟨hB1,hx1,hy1,hz1⟩
 have hlt:=dI.out
 clear dI HZ0 hb0 hx0
 generalize V.heap.size=g at *
 have hne:w.heap.size≠g:=by omega
 have hne2:g≠w.heap.size:=by omega
 have mX:w.heap.size+1≠g:=by omega
 obtain⟨hc,hf,hr,hl⟩:=aN hx1
 obtain⟨hc2,hf2,hr2,hl2⟩:=aN hy1
 have HX:=Lib.hid hx1
 have HY:=Lib.hid hy1
 have HZ:=Lib.hid hz1
 clear hx1 hy1 hz1
 iterate 3 go_step
 apply bK (M:=fun Y=>Y=U)
 case h1=>
  go_wp2_with fail
  exact⟨rfl,⟨rfl⟩⟩
 rintro U' rfl
 iterate 3 go_step
 apply bK (M:=fun Y=>Y=U')
 case h1=>
  go_wp2_with fail
  exact⟨rfl,⟨rfl⟩⟩
 rintro BM rfl
 iterate 3 go_step
 apply bK (M:=fun Y=>Y=BM)
 case h1=>
  go_wp2_with fail
  exact⟨rfl,⟨rfl⟩⟩
 rintro Ub rfl
 iterate 3 go_step
 apply bK (M:=fun Y=>Below w.heap.size w Y∧Y.heap[w.heap.size]?=some (.cells (aj x.i x.t x.m x.k s x.n r x.d x.q x.pn x.f x.a x.b) 36)∧Y.heap[g]?=some (.cells (aj x.i x.t x.m x.k cO dA bz aX bI x.pn 0 0 0) 36)∧aS Y (w.heap.size+1) 0 37=true)
 case h1=>
  go_wp2_with fail
  exact⟨rfl,⟨hB1.setCell (by simp;omega) _,(Below.heap_setCell _ _ _ _ hne).trans HX.out,(jA _ HY.out).trans (by rfl),(uo mX).trans HZ.out⟩⟩
 clear hB1 hc hf hr hl hc2 hf2 hr2 hl2 HX HY HZ
 rintro W4 ⟨hB1,hx1,hy1,hz1⟩
 obtain⟨hc,hf,hr,hl⟩:=aN hx1
 obtain⟨hc2,hf2,hr2,hl2⟩:=aN hy1
 have HX:=Lib.hid hx1
 have HY:=Lib.hid hy1
 have HZ:=Lib.hid hz1
 clear hx1 hy1 hz1
 iterate 3 go_step
 apply bK (M:=fun Y=>Y=W4)
 case h1=>
  go_wp2_with fail
  exact⟨rfl,⟨rfl⟩⟩
 rintro W4' rfl
 have lZ:=lu HY.out (by simp[go_sem]:(aj x.i x.t x.m x.k cO dA bz aX bI x.pn 0 0 0).size=37)
 have hz:=HZ.out
 go_wp2_with fail
 have hrow:=ql (by simp[go_sem]:(aj x.i x.t x.m x.k cO dA bz aX bI x.pn 0 0 0).size=37) hz
 exact bodyPost_ret (uI (by rfl) Tryz.underlying36 rfl (by kernel_rfl) rfl hrow) rfl ⟨rfl,Go.WW.Below.putRow hB1 (by omega)⟩
theorem afV(x:aT)(s:Sl)(r:aC)(w:World)(hk:x.k=5):Calls Tryz.prog 34 #[.agg (aH x s r)] w fun e w'=>e=.returned (.agg (aH (dX x) (gB x s) (gG x r)))∧Below w.heap.size w w':=by
 rw[TP s r hk]
 have e1:(x.k == 1)=false:=by simp[hk]
 have e2:(x.k == 2)=false:=by simp[hk]
 have e3:(x.k == 3)=false:=by simp[hk]
 have e4:(x.k == 4)=false:=by simp[hk]
 have e5:(x.k == 5)=true:=by simp[hk]
 clear hk
 unfold aH
 go_enter Tryz.func34,Tryz.ntmps34
 iterate 2 go_step
 apply bK (M:=fun V=>Below w.heap.size w V∧V.heap[w.heap.size]?=some (.cells (aj x.i x.t x.m x.k s x.n r x.d x.q x.pn x.f x.a x.b) 36)∧aS V (w.heap.size+1) 0 37=true∧w.heap.size+1<V.heap.size)
 case h1=>
  go_wp2_with fail
  exact⟨rfl,⟨az (az (Below.refl _ w) _) _,oK w _ _,by simp[go_sem],by simp⟩⟩
 rintro V ⟨hb0,hx0,hz0,hs0⟩
 have dI:=Lib.hid hs0
 have HZ0:=Lib.hid hz0
 clear hs0 hz0
 iterate 3 go_step
 apply bK (M:=fun U=>Below w.heap.size w U∧U.heap[w.heap.size]?=some (.cells (aj x.i x.t x.m x.k s x.n r x.d x.q x.pn x.f x.a x.b) 36)∧U.heap[V.heap.size]?=some (.cells (aj x.i x.t x.m x.k cO dA bz aX bI ⟨#[]⟩ 0 0 0) 36)∧aS U (w.heap.size+1) 0 37=true)
 case h1=>
  obtain⟨hc,hf,hr,hl⟩:=aN hx0
  go_wp2_with fail
  have hs:=dI.out
  have hb:=az (Below.refl _ V) (.cells (aj x.i x.t x.m x.k cO dA bz aX bI ⟨#[]⟩ 0 0 0) 36)
  exact⟨rfl,⟨hb0.alloc (by omega) _,(hb.block _ (by omega)).trans hx0,World.alloc_heap_new V _,(jJ hb _ _ _ hs).trans HZ0.out⟩⟩
 rintro U ⟨hB1,hx1,hy1,hz1⟩
 have hlt:=dI.out
 clear dI HZ0 hb0 hx0
 generalize V.heap.size=g at *
 have hne:w.heap.size≠g:=by omega
 have hne2:g≠w.heap.size:=by omega
 have mX:w.heap.size+1≠g:=by omega
 obtain⟨hc,hf,hr,hl⟩:=aN hx1
 obtain⟨hc2,hf2,hr2,hl2⟩:=aN hy1
 have HX:=Lib.hid hx1
 have HY:=Lib.hid hy1
 have HZ:=Lib.hid hz1
 clear hx1 hy1 hz1
 iterate 3 go_step
 apply bK (M:=fun Y=>Y=U)
 case h1=>
  go_wp2_with fail
  exact⟨rfl,⟨rfl⟩⟩
 rintro U' rfl
 iterate 3 go_step
 apply bK (M:=fun Y=>Below w.heap.size w Y∧Y.heap[w.heap.size]?=some (.cells (aj x.i x.t x.m x.k s x.n r x.d x.q x.pn x.f x.a x.b) 36)∧Y.heap[g]?=some (.cells (aj x.i x.t x.m x.k s x.n bz aX bI ⟨#[]⟩ 0 0 0) 36)∧aS Y (w.heap.size+1) 0 37=true)
 case h1=>
  have hcp:aS U' g 4 2=true:=nS HY.out (by simp[go_sem])
  go_wp2_with fail
  exact⟨rfl,⟨Go.WW.Below.putRow hB1 (by omega),(iP hne).trans HX.out,(nR HY.out (by simp[go_sem])).trans (by rfl),(qX mX).trans HZ.out⟩⟩
 clear hB1 hc hf hr hl hc2 hf2 hr2 hl2 HX HY HZ
 rintro W2 ⟨hB1,hx1,hy1,hz1⟩
 obtain⟨hc,hf,hr,hl⟩:=aN hx1
 obtain⟨hc2,hf2,hr2,hl2⟩:=aN hy1
 have HX:=Lib.hid hx1
 have HY:=Lib.hid hy1
 have HZ:=Lib.hid hz1
 clear hx1 hy1 hz1
 iterate 3 go_step
 apply bK (M:=fun Y=>Y=W2)
 case h1=>
  go_wp2_with fail
  exact⟨rfl,⟨rfl⟩⟩
 rintro Kv rfl
 iterate 3 go_step
 apply bK (M:=fun Y=>Y=Kv)
 case h1=>
  go_wp2_with fail
  exact⟨rfl,⟨rfl⟩⟩
 rintro pO rfl
 iterate 3 go_step
 apply bK (M:=fun Y=>Below w.heap.size w Y∧Y.heap[w.heap.size]?=some (.cells (aj x.i x.t x.m x.k s x.n r x.d x.q x.pn x.f x.a x.b) 36)∧Y.heap[g]?=some (.cells (aj x.i x.t x.m x.k s x.n bz aX bI ⟨#[]⟩ x.f x.a x.b) 36)∧aS Y (w.heap.size+1) 0 37=true)
 case h1=>
  have nb:¬one g w.heap.size:=Kt hne
  go_wp2_with fail
  refine Ua (one g) (But.refl _ pO) (by kernel_rfl) (by kernel_rfl) ?_
  iterate 7 (refine wU (by kernel_rfl) (by kernel_rfl) (fun K hK=>?_);go_big_quiet_op;refine hK _ ?_;clear hK K)
  refine wV (by rfl) (by rfl) (fun K hK=>?_)
  go_wp2_with fail
  have q2:But (one g) pO (pO.setCell ⟨g,34,none⟩ (.int .i64 x.f)).drew:=(show But (one g) pO (pO.setCell ⟨g,34,none⟩ (.int .i64 x.f)) from⟨rfl,rfl,rfl,by simp[World.setCell],fun k _ hn=>Below.heap_setCell _ _ _ _ hn⟩).drew
  have y2:(pO.setCell ⟨g,34,none⟩ (.int .i64 x.f)).drew.heap[g]?=some (.cells (aj x.i x.t x.m x.k s x.n bz aX bI ⟨#[]⟩ x.f 0 0) 36):=(jA _ HY.out).trans (by rfl)
  refine hK _ _ (wW q2) ?_
  clear hK K
  generalize (pO.setCell ⟨g,34,none⟩ (.int .i64 x.f)).drew=A2 at *
  obtain⟨hc2,hf2,hr2,hl2⟩:=aN y2
  iterate 1 (refine wU (by kernel_rfl) (by kernel_rfl) (fun K hK=>?_);go_big_quiet_op;refine hK _ ?_;clear hK K)
  refine wV (by rfl) (by rfl) (fun K hK=>?_)
  go_wp2_with fail
  have q3:But (one g) pO (A2.setCell ⟨g,35,none⟩ (.int .i64 x.a)):=q2.trans ⟨rfl,rfl,rfl,by simp[World.setCell],fun k _ hn=>Below.heap_setCell _ _ _ _ hn⟩
  have y3:(A2.setCell ⟨g,35,none⟩ (.int .i64 x.a)).heap[g]?=some (.cells (aj x.i x.t x.m x.k s x.n bz aX bI ⟨#[]⟩ x.f x.a 0) 36):=(jA _ y2).trans (by rfl)
  refine hK _ _ (wW q3) ?_
  clear hK K
  generalize A2.setCell ⟨g,35,none⟩ (.int .i64 x.a)=A3 at *
  clear q2 y2
  obtain⟨hc2,hf2,hr2,hl2⟩:=aN y3
  iterate 1 (refine wU (by kernel_rfl) (by kernel_rfl) (fun K hK=>?_);go_big_quiet_op;refine hK _ ?_;clear hK K)
  refine wV (by rfl) (by rfl) (fun K hK=>?_)
  go_wp2_with fail
  have q4:But (one g) pO (A3.setCell ⟨g,36,none⟩ (.int .i64 x.b)):=q3.trans ⟨rfl,rfl,rfl,by simp[World.setCell],fun k _ hn=>Below.heap_setCell _ _ _ _ hn⟩
  have y4:(A3.setCell ⟨g,36,none⟩ (.int .i64 x.b)).heap[g]?=some (.cells (aj x.i x.t x.m x.k s x.n bz aX bI ⟨#[]⟩ x.f x.a x.b) 36):=(jA _ y3).trans (by rfl)
  refine hK _ _ (wW q4) ?_
  clear hK K
  generalize A3.setCell ⟨g,36,none⟩ (.int .i64 x.b)=A4 at *
  refine iH ?_
  go_wp2_with fail
  exact⟨rfl,⟨((But.of_below (S:=fun k=>w.heap.size≤k) hB1).trans (q4.mono fun k (hk:k=g)=>hk▸(show w.heap.size≤g by omega))).below (Nat.le_refl _) fun k hk=>hk,(q4.block _ hl nb).trans HX.out,y4,(DV (q4.block _ (afL HZ.out) (Kt mX)) 0 37).trans HZ.out⟩⟩
 clear hB1 hc hf hr hl hc2 hf2 hr2 hl2 HX HY HZ
 rintro W5 ⟨hB1,hx1,hy1,hz1⟩
 obtain⟨hc,hf,hr,hl⟩:=aN hx1
 obtain⟨hc2,hf2,hr2,hl2⟩:=aN hy1
 have HX:=Lib.hid hx1
 have HY:=Lib.hid hy1
 have HZ:=Lib.hid hz1
 clear hx1 hy1 hz1
 have lZ:=lu HY.out (by simp[go_sem]:(aj x.i x.t x.m x.k s x.n bz aX bI ⟨#[]⟩ x.f x.a x.b).size=37)
 have hz:=HZ.out
 go_wp2_with fail
 have hrow:=ql (by simp[go_sem]:(aj x.i x.t x.m x.k s x.n bz aX bI ⟨#[]⟩ x.f x.a x.b).size=37) hz
 exact bodyPost_ret (uI (by rfl) Tryz.underlying36 rfl (by kernel_rfl) rfl hrow) rfl ⟨rfl,Go.WW.Below.putRow hB1 (by omega)⟩
theorem wX(x:aT)(s:Sl)(r:aC)(w:World):Calls Tryz.prog 34 #[.agg (aH x s r)] w fun e w'=>e=.returned (.agg (aH (dX x) (gB x s) (gG x r)))∧Below w.heap.size w w':=by
 by_cases n1:x.k=1
 ·exact afO x s r w n1
 by_cases n2:x.k=2
 ·exact afR x s r w n2
 by_cases n3:x.k=3
 ·exact afS x s r w n3
 by_cases n4:x.k=4
 ·exact afU x s r w n4
 by_cases n5:x.k=5
 ·exact afV x s r w n5
 exact afM x s r w n1 n2 n3 n4 n5
end Go.Proofs.YtibhckkjciflaaaGreatDoor
