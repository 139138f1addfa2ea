/- A part of the proof. -/
import Derived.Test.YtibhckkjciflaaaGreatDoorA29
import Derived.Test.YtibhckkjciflaaaGreatDoorA25
import Derived.Test.YtibhckkjciflaaaGreatDoorA13
set_option maxRecDepth 100000
set_option maxHeartbeats 4000000
namespace Go.Proofs.YtibhckkjciflaaaGreatDoor
open Go.RowKit Go.WW
theorem afW(x:aT)(s:Sl)(r:aC)(w:World)(c0:x.i<1):Calls Tryz.prog 8 #[.agg (aH x s r)] w fun e w'=>e=.returned (.bool (cZ x))∧Below w.heap.size w w':=by
 have HN:=Lib.hid (yM (x:=x) (by unfold bD ag;simp;omega))
 rw[HN.out]
 have d0:(decide (x.i<1))=true:=decide_eq_true (by omega)
 clear c0
 have hB:Below w.heap.size w (w.alloc (.cells (aj x.i x.t x.m x.k s x.n r x.d x.q x.pn x.f x.a x.b) 36)):=az (Below.refl _ _) _
 unfold aH
 go_enter Tryz.func8,Tryz.ntmps8
 go_wp2_with fail
 refine dZ (Below.refl _ (w.alloc (.cells (aj x.i x.t x.m x.k s x.n r x.d x.q x.pn x.f x.a x.b) 36))) (by kernel_rfl) (by kernel_rfl) ?_
 repeat (go_big_quiet_step ((go_at_call 33;exact Calls.qR (kN _ _))))
 refine wpQuiet_nil ?_
 intro w1 hb1
 go_wp2_with fail
 go_ret
 exact⟨rfl,af hB hb1⟩
theorem afX(x:aT)(s:Sl)(r:aC)(w:World)(c0:¬x.i<1)(c1:1099511627776<x.i):Calls Tryz.prog 8 #[.agg (aH x s r)] w fun e w'=>e=.returned (.bool (cZ x))∧Below w.heap.size w w':=by
 have HN:=Lib.hid (yM (x:=x) (by unfold bD ag;simp;omega))
 rw[HN.out]
 have d0:(decide (x.i<1))=false:=decide_eq_false (by omega)
 have d1:(decide (1099511627776<x.i))=true:=decide_eq_true (by omega)
 clear c0 c1
 have hB:Below w.heap.size w (w.alloc (.cells (aj x.i x.t x.m x.k s x.n r x.d x.q x.pn x.f x.a x.b) 36)):=az (Below.refl _ _) _
 unfold aH
 go_enter Tryz.func8,Tryz.ntmps8
 go_wp2_with fail
 refine dZ (Below.refl _ (w.alloc (.cells (aj x.i x.t x.m x.k s x.n r x.d x.q x.pn x.f x.a x.b) 36))) (by kernel_rfl) (by kernel_rfl) ?_
 repeat (go_big_quiet_step ((go_at_call 33;exact Calls.qR (kN _ _))))
 refine wpQuiet_nil ?_
 intro w1 hb1
 go_wp2_with fail
 go_ret
 exact⟨rfl,af hB hb1⟩
theorem afY(x:aT)(s:Sl)(r:aC)(w:World)(c0:¬x.i<1)(c1:¬1099511627776<x.i)(c2:x.t<1):Calls Tryz.prog 8 #[.agg (aH x s r)] w fun e w'=>e=.returned (.bool (cZ x))∧Below w.heap.size w w':=by
 have HN:=Lib.hid (yM (x:=x) (by unfold bD ag;simp;omega))
 rw[HN.out]
 have d0:(decide (x.i<1))=false:=decide_eq_false (by omega)
 have d1:(decide (1099511627776<x.i))=false:=decide_eq_false (by omega)
 have d2:(decide (x.t<1))=true:=decide_eq_true (by omega)
 clear c0 c1 c2
 have hB:Below w.heap.size w (w.alloc (.cells (aj x.i x.t x.m x.k s x.n r x.d x.q x.pn x.f x.a x.b) 36)):=az (Below.refl _ _) _
 unfold aH
 go_enter Tryz.func8,Tryz.ntmps8
 go_wp2_with fail
 refine dZ (Below.refl _ (w.alloc (.cells (aj x.i x.t x.m x.k s x.n r x.d x.q x.pn x.f x.a x.b) 36))) (by kernel_rfl) (by kernel_rfl) ?_
 repeat (go_big_quiet_step ((go_at_call 33;exact Calls.qR (kN _ _))))
 refine wpQuiet_nil ?_
 intro w1 hb1
 go_wp2_with fail
 go_ret
 exact⟨rfl,af hB hb1⟩
theorem afZ(x:aT)(s:Sl)(r:aC)(w:World)(c0:¬x.i<1)(c1:¬1099511627776<x.i)(c2:¬x.t<1)(c3:2147483648<x.t):Calls Tryz.prog 8 #[.agg (aH x s r)] w fun e w'=>e=.returned (.bool (cZ x))∧Below w.heap.size w w':=by
 have HN:=Lib.hid (yM (x:=x) (by unfold bD ag;simp;omega))
 rw[HN.out]
 have d0:(decide (x.i<1))=false:=decide_eq_false (by omega)
 have d1:(decide (1099511627776<x.i))=false:=decide_eq_false (by omega)
 have d2:(decide (x.t<1))=false:=decide_eq_false (by omega)
 have d3:(decide (2147483648<x.t))=true:=decide_eq_true (by omega)
 clear c0 c1 c2 c3
 have hB:Below w.heap.size w (w.alloc (.cells (aj x.i x.t x.m x.k s x.n r x.d x.q x.pn x.f x.a x.b) 36)):=az (Below.refl _ _) _
 unfold aH
 go_enter Tryz.func8,Tryz.ntmps8
 go_wp2_with fail
 refine dZ (Below.refl _ (w.alloc (.cells (aj x.i x.t x.m x.k s x.n r x.d x.q x.pn x.f x.a x.b) 36))) (by kernel_rfl) (by kernel_rfl) ?_
 repeat (go_big_quiet_step ((go_at_call 33;exact Calls.qR (kN _ _))))
 refine wpQuiet_nil ?_
 intro w1 hb1
 go_wp2_with fail
 go_ret
 exact⟨rfl,af hB hb1⟩
theorem af0(x:aT)(s:Sl)(r:aC)(w:World)(c0:¬x.i<1)(c1:¬1099511627776<x.i)(c2:¬x.t<1)(c3:¬2147483648<x.t)(c4:ag x.m 0 1099511627776=false):Calls Tryz.prog 8 #[.agg (aH x s r)] w fun e w'=>e=.returned (.bool (cZ x))∧Below w.heap.size w w':=by
 have HN:=Lib.hid (yM (x:=x) (by unfold bD;rw[c4];simp))
 rw[HN.out]
 have d0:(decide (x.i<1))=false:=decide_eq_false (by omega)
 have d1:(decide (1099511627776<x.i))=false:=decide_eq_false (by omega)
 have d2:(decide (x.t<1))=false:=decide_eq_false (by omega)
 have d3:(decide (2147483648<x.t))=false:=decide_eq_false (by omega)
 clear c0 c1 c2 c3
 have hB:Below w.heap.size w (w.alloc (.cells (aj x.i x.t x.m x.k s x.n r x.d x.q x.pn x.f x.a x.b) 36)):=az (Below.refl _ _) _
 unfold aH
 go_enter Tryz.func8,Tryz.ntmps8
 go_wp2_with fail
 refine dZ (Below.refl _ (w.alloc (.cells (aj x.i x.t x.m x.k s x.n r x.d x.q x.pn x.f x.a x.b) 36))) (by kernel_rfl) (by kernel_rfl) ?_
 repeat (go_big_quiet_step ((go_at_call 33;exact Calls.qR (kN _ _))))
 refine wpQuiet_nil ?_
 intro w1 hb1
 go_wp2_with fail
 go_ret
 exact⟨rfl,af hB hb1⟩
theorem af1(x:aT)(s:Sl)(r:aC)(w:World)(hx:dV w s r x)(c0:¬x.i<1)(c1:¬1099511627776<x.i)(c2:¬x.t<1)(c3:¬2147483648<x.t)(c4:ag x.m 0 1099511627776=true)(c5:bJ x (dX x)=false):Calls Tryz.prog 8 #[.agg (aH x s r)] w fun e w'=>e=.returned (.bool (cZ x))∧Below w.heap.size w w':=by
 have HN:=Lib.hid (show cZ x=false by unfold cZ;rw[c5];simp)
 rw[HN.out]
 have HR0:=Lib.hid (show bD x=true by unfold bD;rw[c4];unfold ag;simp;omega)
 have HU:=Lib.hid (oO hx)
 have hB:Below w.heap.size w (w.alloc (.cells (aj x.i x.t x.m x.k s x.n r x.d x.q x.pn x.f x.a x.b) 36)):=az (Below.refl _ _) _
 unfold aH
 go_enter Tryz.func8,Tryz.ntmps8
 go_wp2_with fail
 refine jr (Below.refl _ (w.alloc (.cells (aj x.i x.t x.m x.k s x.n r x.d x.q x.pn x.f x.a x.b) 36))) (by kernel_rfl) (by kernel_rfl) ?_
 intro w1 hb1
 obtain⟨hcc,ax,hrr⟩:=aK hb1
 repeat (first|(refine ah (by rfl) ?_)|(refine ai (by rfl) (by rfl) (fun K hK=>?_);go_big_quiet_op;refine hK _ ?_;clear hK K))
 try rw[show(decide (x.i<1))=false from decide_eq_false (by omega)]
 repeat (first|(refine ah (by rfl) ?_)|(refine ai (by rfl) (by rfl) (fun K hK=>?_);go_big_quiet_op;refine hK _ ?_;clear hK K))
 try rw[show(decide (1099511627776<x.i))=false from decide_eq_false (by omega)]
 repeat (first|(refine ah (by rfl) ?_)|(refine ai (by rfl) (by rfl) (fun K hK=>?_);go_big_quiet_op;refine hK _ ?_;clear hK K))
 try rw[show(decide (x.t<1))=false from decide_eq_false (by omega)]
 repeat (first|(refine ah (by rfl) ?_)|(refine ai (by rfl) (by rfl) (fun K hK=>?_);go_big_quiet_op;refine hK _ ?_;clear hK K))
 try rw[show(decide (2147483648<x.t))=false from decide_eq_false (by omega)]
 repeat (first|(refine ah (by rfl) ?_)|(refine ai (by rfl) (by rfl) (fun K hK=>?_);go_big_quiet_op;refine hK _ ?_;clear hK K))
 refine au (by rfl) (by rfl) (fun K hK=>?_)
 go_wp2_with fail
 refine(kN _ _).mono ?_
 rintro e w2 ⟨rfl,rfl⟩
 refine hK _ _ (ak hb1) ?_
 clear hK K
 repeat (first|(refine ah (by rfl) ?_)|(refine ai (by rfl) (by rfl) (fun K hK=>?_);go_big_quiet_op;refine hK _ ?_;clear hK K))
 refine au (by rfl) (by rfl) (fun K hK=>?_)
 go_wp2_with fail
 refine(wX x s r _).mono ?_
 rintro e w2 ⟨rfl,hy2⟩
 have hb2:=af hb1 hy2
 clear hy2
 have HB2:=Lib.hid (af hB hb2)
 refine hK _ _ (ak hb2) ?_
 clear hK K
 repeat (first|(refine ah (by rfl) ?_)|(refine ai (by rfl) (by rfl) (fun K hK=>?_);go_big_quiet_op;refine hK _ ?_;clear hK K))
 refine au (by rfl) (by rfl) (fun K hK=>?_)
 go_wp2_with fail
 refine(sF x (dX x) s (gB x s) r (gG x r) _ (hx.later HB2.out) (HU.out.later HB2.out)).mono ?_
 rintro e w3 ⟨rfl,hy3⟩
 have hb3:=af hb2 hy3
 clear hy3 hb2 hcc ax hrr
 have HB3:=Lib.hid (af hB hb3)
 clear HB2 HU
 refine hK _ _ (ak hb3) ?_
 clear hK K
 repeat (first|(refine ah (by rfl) ?_)|(refine ai (by rfl) (by rfl) (fun K hK=>?_);go_big_quiet_op;refine hK _ ?_;clear hK K))
 refine iH ?_
 go_wp2_with fail
 go_ret
 exact⟨rfl,HB3.out⟩
theorem af2(x:aT)(s:Sl)(r:aC)(w:World)(hx:dV w s r x)(c0:¬x.i<1)(c1:¬1099511627776<x.i)(c2:¬x.t<1)(c3:¬2147483648<x.t)(c4:ag x.m 0 1099511627776=true)(c5:bJ x (dX x)=true)(hk:x.k=1):Calls Tryz.prog 8 #[.agg (aH x s r)] w fun e w'=>e=.returned (.bool (cZ x))∧Below w.heap.size w w':=by
 have HN:=Lib.hid (show cZ x=kindOk x by unfold cZ;rw[c5,show bD x=true by unfold bD;rw[c4];unfold ag;simp;omega];simp)
 have HK:=Lib.hid (TQ hk)
 rw[HN.out,HK.out]
 have e1:(x.k == 1)=true:=by simp[hk]
 clear hk
 have HR0:=Lib.hid (show bD x=true by unfold bD;rw[c4];unfold ag;simp;omega)
 have HU:=Lib.hid (oO hx)
 have hB:Below w.heap.size w (w.alloc (.cells (aj x.i x.t x.m x.k s x.n r x.d x.q x.pn x.f x.a x.b) 36)):=az (Below.refl _ _) _
 unfold aH
 go_enter Tryz.func8,Tryz.ntmps8
 go_wp2_with fail
 refine jr (Below.refl _ (w.alloc (.cells (aj x.i x.t x.m x.k s x.n r x.d x.q x.pn x.f x.a x.b) 36))) (by kernel_rfl) (by kernel_rfl) ?_
 intro w1 hb1
 obtain⟨hcc,ax,hrr⟩:=aK hb1
 repeat (first|(refine ah (by rfl) ?_)|(refine ai (by rfl) (by rfl) (fun K hK=>?_);go_big_quiet_op;refine hK _ ?_;clear hK K))
 try rw[show(decide (x.i<1))=false from decide_eq_false (by omega)]
 repeat (first|(refine ah (by rfl) ?_)|(refine ai (by rfl) (by rfl) (fun K hK=>?_);go_big_quiet_op;refine hK _ ?_;clear hK K))
 try rw[show(decide (1099511627776<x.i))=false from decide_eq_false (by omega)]
 repeat (first|(refine ah (by rfl) ?_)|(refine ai (by rfl) (by rfl) (fun K hK=>?_);go_big_quiet_op;refine hK _ ?_;clear hK K))
 try rw[show(decide (x.t<1))=false from decide_eq_false (by omega)]
 repeat (first|(refine ah (by rfl) ?_)|(refine ai (by rfl) (by rfl) (fun K hK=>?_);go_big_quiet_op;refine hK _ ?_;clear hK K))
 try rw[show(decide (2147483648<x.t))=false from decide_eq_false (by omega)]
 repeat (first|(refine ah (by rfl) ?_)|(refine ai (by rfl) (by rfl) (fun K hK=>?_);go_big_quiet_op;refine hK _ ?_;clear hK K))
 refine au (by rfl) (by rfl) (fun K hK=>?_)
 go_wp2_with fail
 refine(kN _ _).mono ?_
 rintro e w2 ⟨rfl,rfl⟩
 refine hK _ _ (ak hb1) ?_
 clear hK K
 repeat (first|(refine ah (by rfl) ?_)|(refine ai (by rfl) (by rfl) (fun K hK=>?_);go_big_quiet_op;refine hK _ ?_;clear hK K))
 refine au (by rfl) (by rfl) (fun K hK=>?_)
 go_wp2_with fail
 refine(wX x s r _).mono ?_
 rintro e w2 ⟨rfl,hy2⟩
 have hb2:=af hb1 hy2
 clear hy2
 have HB2:=Lib.hid (af hB hb2)
 refine hK _ _ (ak hb2) ?_
 clear hK K
 repeat (first|(refine ah (by rfl) ?_)|(refine ai (by rfl) (by rfl) (fun K hK=>?_);go_big_quiet_op;refine hK _ ?_;clear hK K))
 refine au (by rfl) (by rfl) (fun K hK=>?_)
 go_wp2_with fail
 refine(sF x (dX x) s (gB x s) r (gG x r) _ (hx.later HB2.out) (HU.out.later HB2.out)).mono ?_
 rintro e w3 ⟨rfl,hy3⟩
 have hb3:=af hb2 hy3
 clear hy3 hb2 hcc ax hrr
 have HB3:=Lib.hid (af hB hb3)
 clear HB2 HU
 refine hK _ _ (ak hb3) ?_
 clear hK K
 repeat (first|(refine ah (by rfl) ?_)|(refine ai (by rfl) (by rfl) (fun K hK=>?_);go_big_quiet_op;refine hK _ ?_;clear hK K))
 refine iH ?_
 clear c0 c1 c2 c3 c4 c5
 obtain⟨hcc,ax,hrr⟩:=aK hb3
 have hsz:w.heap.size<w3.heap.size:=by have:=hb3.size;simp at this;omega
 go_wp2_with fail
 refine(aaz _ _ _ (hx.2.1.later HB3.out)).mono ?_
 rintro e w4 ⟨rfl,hy4⟩
 have HB4:=Lib.hid (af HB3.out hy4)
 clear hy4
 go_wp2_with fail
 go_ret
 exact⟨rfl,HB4.out⟩
theorem af4(x:aT)(s:Sl)(r:aC)(w:World)(hx:dV w s r x)(c0:¬x.i<1)(c1:¬1099511627776<x.i)(c2:¬x.t<1)(c3:¬2147483648<x.t)(c4:ag x.m 0 1099511627776=true)(c5:bJ x (dX x)=true)(hk:x.k=2):Calls Tryz.prog 8 #[.agg (aH x s r)] w fun e w'=>e=.returned (.bool (cZ x))∧Below w.heap.size w w':=by
 have HN:=Lib.hid (show cZ x=kindOk x by unfold cZ;rw[c5,show bD x=true by unfold bD;rw[c4];unfold ag;simp;omega];simp)
 have HK:=Lib.hid (TR hk)
 rw[HN.out,HK.out]
 have e1:(x.k == 1)=false:=by simp[hk]
 have e2:(x.k == 2)=true:=by simp[hk]
 clear hk
 have HR0:=Lib.hid (show bD x=true by unfold bD;rw[c4];unfold ag;simp;omega)
 have HU:=Lib.hid (oO hx)
 have hB:Below w.heap.size w (w.alloc (.cells (aj x.i x.t x.m x.k s x.n r x.d x.q x.pn x.f x.a x.b) 36)):=az (Below.refl _ _) _
 unfold aH
 go_enter Tryz.func8,Tryz.ntmps8
 go_wp2_with fail
 refine jr (Below.refl _ (w.alloc (.cells (aj x.i x.t x.m x.k s x.n r x.d x.q x.pn x.f x.a x.b) 36))) (by kernel_rfl) (by kernel_rfl) ?_
 intro w1 hb1
 obtain⟨hcc,ax,hrr⟩:=aK hb1
 repeat (first|(refine ah (by rfl) ?_)|(refine ai (by rfl) (by rfl) (fun K hK=>?_);go_big_quiet_op;refine hK _ ?_;clear hK K))
 try rw[show(decide (x.i<1))=false from decide_eq_false (by omega)]
 repeat (first|(refine ah (by rfl) ?_)|(refine ai (by rfl) (by rfl) (fun K hK=>?_);go_big_quiet_op;refine hK _ ?_;clear hK K))
 try rw[show(decide (1099511627776<x.i))=false from decide_eq_false (by omega)]
 repeat (first|(refine ah (by rfl) ?_)|(refine ai (by rfl) (by rfl) (fun K hK=>?_);go_big_quiet_op;refine hK _ ?_;clear hK K))
 try rw[show(decide (x.t<1))=false from decide_eq_false (by omega)]
 repeat (first|(refine ah (by rfl) ?_)|(refine ai (by rfl) (by rfl) (fun K hK=>?_);go_big_quiet_op;refine hK _ ?_;clear hK K))
 try rw[show(decide (2147483648<x.t))=false from decide_eq_false (by omega)]
 repeat (first|(refine ah (by rfl) ?_)|(refine ai (by rfl) (by rfl) (fun K hK=>?_);go_big_quiet_op;refine hK _ ?_;clear hK K))
 refine au (by rfl) (by rfl) (fun K hK=>?_)
 go_wp2_with fail
 refine(kN _ _).mono ?_
 rintro e w2 ⟨rfl,rfl⟩
 refine hK _ _ (ak hb1) ?_
 clear hK K
 repeat (first|(refine ah (by rfl) ?_)|(refine ai (by rfl) (by rfl) (fun K hK=>?_);go_big_quiet_op;refine hK _ ?_;clear hK K))
 refine au (by rfl) (by rfl) (fun K hK=>?_)
 go_wp2_with fail
 refine(wX x s r _).mono ?_
 rintro e w2 ⟨rfl,hy2⟩
 have hb2:=af hb1 hy2
 clear hy2
 have HB2:=Lib.hid (af hB hb2)
 refine hK _ _ (ak hb2) ?_
 clear hK K
 repeat (first|(refine ah (by rfl) ?_)|(refine ai (by rfl) (by rfl) (fun K hK=>?_);go_big_quiet_op;refine hK _ ?_;clear hK K))
 refine au (by rfl) (by rfl) (fun K hK=>?_)
 go_wp2_with fail
 refine(sF x (dX x) s (gB x s) r (gG x r) _ (hx.later HB2.out) (HU.out.later HB2.out)).mono ?_
 rintro e w3 ⟨rfl,hy3⟩
 have hb3:=af hb2 hy3
 clear hy3 hb2 hcc ax hrr
 have HB3:=Lib.hid (af hB hb3)
 clear HB2 HU
 refine hK _ _ (ak hb3) ?_
 clear hK K
 repeat (first|(refine ah (by rfl) ?_)|(refine ai (by rfl) (by rfl) (fun K hK=>?_);go_big_quiet_op;refine hK _ ?_;clear hK K))
 refine iH ?_
 clear c0 c1 c2 c3 c4 c5
 obtain⟨hcc,ax,hrr⟩:=aK hb3
 have hsz:w.heap.size<w3.heap.size:=by have:=hb3.size;simp at this;omega
 go_wp2_with fail
 refine(uf _ _ _ (hx.1.later HB3.out)).mono ?_
 rintro e w4 ⟨rfl,hy4⟩
 have HB4:=Lib.hid (af HB3.out hy4)
 clear hy4
 go_wp2_with fail
 go_ret
 exact⟨rfl,HB4.out⟩
theorem af5(x:aT)(s:Sl)(r:aC)(w:World)(hx:dV w s r x)(c0:¬x.i<1)(c1:¬1099511627776<x.i)(c2:¬x.t<1)(c3:¬2147483648<x.t)(c4:ag x.m 0 1099511627776=true)(c5:bJ x (dX x)=true)(hk:x.k=3):Calls Tryz.prog 8 #[.agg (aH x s r)] w fun e w'=>e=.returned (.bool (cZ x))∧Below w.heap.size w w':=by
 have HN:=Lib.hid (show cZ x=kindOk x by unfold cZ;rw[c5,show bD x=true by unfold bD;rw[c4];unfold ag;simp;omega];simp)
 have HK:=Lib.hid (TS hk)
 rw[HN.out,HK.out]
 have e1:(x.k == 1)=false:=by simp[hk]
 have e2:(x.k == 2)=false:=by simp[hk]
 have e3:(x.k == 3)=true:=by simp[hk]
 clear hk
 have HR0:=Lib.hid (show bD x=true by unfold bD;rw[c4];unfold ag;simp;omega)
 have HU:=Lib.hid (oO hx)
 have hB:Below w.heap.size w (w.alloc (.cells (aj x.i x.t x.m x.k s x.n r x.d x.q x.pn x.f x.a x.b) 36)):=az (Below.refl _ _) _
 unfold aH
 go_enter Tryz.func8,Tryz.ntmps8
 go_wp2_with fail
 refine jr (Below.refl _ (w.alloc (.cells (aj x.i x.t x.m x.k s x.n r x.d x.q x.pn x.f x.a x.b) 36))) (by kernel_rfl) (by kernel_rfl) ?_
 intro w1 hb1
 obtain⟨hcc,ax,hrr⟩:=aK hb1
 repeat (first|(refine ah (by rfl) ?_)|(refine ai (by rfl) (by rfl) (fun K hK=>?_);go_big_quiet_op;refine hK _ ?_;clear hK K))
 try rw[show(decide (x.i<1))=false from decide_eq_false (by omega)]
 repeat (first|(refine ah (by rfl) ?_)|(refine ai (by rfl) (by rfl) (fun K hK=>?_);go_big_quiet_op;refine hK _ ?_;clear hK K))
 try rw[show(decide (1099511627776<x.i))=false from decide_eq_false (by omega)]
 repeat (first|(refine ah (by rfl) ?_)|(refine ai (by rfl) (by rfl) (fun K hK=>?_);go_big_quiet_op;refine hK _ ?_;clear hK K))
 try rw[show(decide (x.t<1))=false from decide_eq_false (by omega)]
 repeat (first|(refine ah (by rfl) ?_)|(refine ai (by rfl) (by rfl) (fun K hK=>?_);go_big_quiet_op;refine hK _ ?_;clear hK K))
 try rw[show(decide (2147483648<x.t))=false from decide_eq_false (by omega)]
 repeat (first|(refine ah (by rfl) ?_)|(refine ai (by rfl) (by rfl) (fun K hK=>?_);go_big_quiet_op;refine hK _ ?_;clear hK K))
 refine au (by rfl) (by rfl) (fun K hK=>?_)
 go_wp2_with fail
 refine(kN _ _).mono ?_
 rintro e w2 ⟨rfl,rfl⟩
 refine hK _ _ (ak hb1) ?_
 clear hK K
 repeat (first|(refine ah (by rfl) ?_)|(refine ai (by rfl) (by rfl) (fun K hK=>?_);go_big_quiet_op;refine hK _ ?_;clear hK K))
 refine au (by rfl) (by rfl) (fun K hK=>?_)
 go_wp2_with fail
 refine(wX x s r _).mono ?_
 rintro e w2 ⟨rfl,hy2⟩
 have hb2:=af hb1 hy2
 clear hy2
 have HB2:=Lib.hid (af hB hb2)
 refine hK _ _ (ak hb2) ?_
 clear hK K
 repeat (first|(refine ah (by rfl) ?_)|(refine ai (by rfl) (by rfl) (fun K hK=>?_);go_big_quiet_op;refine hK _ ?_;clear hK K))
 refine au (by rfl) (by rfl) (fun K hK=>?_)
 go_wp2_with fail
 refine(sF x (dX x) s (gB x s) r (gG x r) _ (hx.later HB2.out) (HU.out.later HB2.out)).mono ?_
 rintro e w3 ⟨rfl,hy3⟩
 have hb3:=af hb2 hy3
 clear hy3 hb2 hcc ax hrr
 have HB3:=Lib.hid (af hB hb3)
 clear HB2 HU
 refine hK _ _ (ak hb3) ?_
 clear hK K
 repeat (first|(refine ah (by rfl) ?_)|(refine ai (by rfl) (by rfl) (fun K hK=>?_);go_big_quiet_op;refine hK _ ?_;clear hK K))
 refine iH ?_
 clear c0 c1 c2 c3 c4 c5
 obtain⟨hcc,ax,hrr⟩:=aK hb3
 have hsz:w.heap.size<w3.heap.size:=by have:=hb3.size;simp at this;omega
 go_wp2_with fail
 refine(aaQ _ _ hx.2.2.1).mono ?_
 rintro e w4 ⟨rfl,hy4⟩
 have HB4:=Lib.hid (af HB3.out hy4)
 clear hy4
 go_wp2_with fail
 go_ret
 exact⟨rfl,HB4.out⟩
theorem af6(x:aT)(s:Sl)(r:aC)(w:World)(hx:dV w s r x)(c0:¬x.i<1)(c1:¬1099511627776<x.i)(c2:¬x.t<1)(c3:¬2147483648<x.t)(c4:ag x.m 0 1099511627776=true)(c5:bJ x (dX x)=true)(hk:x.k=4):Calls Tryz.prog 8 #[.agg (aH x s r)] w fun e w'=>e=.returned (.bool (cZ x))∧Below w.heap.size w w':=by
 have HN:=Lib.hid (show cZ x=kindOk x by unfold cZ;rw[c5,show bD x=true by unfold bD;rw[c4];unfold ag;simp;omega];simp)
 have HK:=Lib.hid (TT hk)
 rw[HN.out,HK.out]
 have e1:(x.k == 1)=false:=by simp[hk]
 have e2:(x.k == 2)=false:=by simp[hk]
 have e3:(x.k == 3)=false:=by simp[hk]
 have e4:(x.k == 4)=true:=by simp[hk]
 clear hk
 have HR0:=Lib.hid (show bD x=true by unfold bD;rw[c4];unfold ag;simp;omega)
 have HU:=Lib.hid (oO hx)
 have hB:Below w.heap.size w (w.alloc (.cells (aj x.i x.t x.m x.k s x.n r x.d x.q x.pn x.f x.a x.b) 36)):=az (Below.refl _ _) _
 unfold aH
 go_enter Tryz.func8,Tryz.ntmps8
 go_wp2_with fail
 refine jr (Below.refl _ (w.alloc (.cells (aj x.i x.t x.m x.k s x.n r x.d x.q x.pn x.f x.a x.b) 36))) (by kernel_rfl) (by kernel_rfl) ?_
 intro w1 hb1
 obtain⟨hcc,ax,hrr⟩:=aK hb1
 repeat (first|(refine ah (by rfl) ?_)|(refine ai (by rfl) (by rfl) (fun K hK=>?_);go_big_quiet_op;refine hK _ ?_;clear hK K))
 try rw[show(decide (x.i<1))=false from decide_eq_false (by omega)]
 repeat (first|(refine ah (by rfl) ?_)|(refine ai (by rfl) (by rfl) (fun K hK=>?_);go_big_quiet_op;refine hK _ ?_;clear hK K))
 try rw[show(decide (1099511627776<x.i))=false from decide_eq_false (by omega)]
 repeat (first|(refine ah (by rfl) ?_)|(refine ai (by rfl) (by rfl) (fun K hK=>?_);go_big_quiet_op;refine hK _ ?_;clear hK K))
 try rw[show(decide (x.t<1))=false from decide_eq_false (by omega)]
 repeat (first|(refine ah (by rfl) ?_)|(refine ai (by rfl) (by rfl) (fun K hK=>?_);go_big_quiet_op;refine hK _ ?_;clear hK K))
 try rw[show(decide (2147483648<x.t))=false from decide_eq_false (by omega)]
 repeat (first|(refine ah (by rfl) ?_)|(refine ai (by rfl) (by rfl) (fun K hK=>?_);go_big_quiet_op;refine hK _ ?_;clear hK K))
 refine au (by rfl) (by rfl) (fun K hK=>?_)
 go_wp2_with fail
 refine(kN _ _).mono ?_
 rintro e w2 ⟨rfl,rfl⟩
 refine hK _ _ (ak hb1) ?_
 clear hK K
 repeat (first|(refine ah (by rfl) ?_)|(refine ai (by rfl) (by rfl) (fun K hK=>?_);go_big_quiet_op;refine hK _ ?_;clear hK K))
 refine au (by rfl) (by rfl) (fun K hK=>?_)
 go_wp2_with fail
 refine(wX x s r _).mono ?_
 rintro e w2 ⟨rfl,hy2⟩
 have hb2:=af hb1 hy2
 clear hy2
 have HB2:=Lib.hid (af hB hb2)
 refine hK _ _ (ak hb2) ?_
 clear hK K
 repeat (first|(refine ah (by rfl) ?_)|(refine ai (by rfl) (by rfl) (fun K hK=>?_);go_big_quiet_op;refine hK _ ?_;clear hK K))
 refine au (by rfl) (by rfl) (fun K hK=>?_)
 go_wp2_with fail
 refine(sF x (dX x) s (gB x s) r (gG x r) _ (hx.later HB2.out) (HU.out.later HB2.out)).mono ?_
 rintro e w3 ⟨rfl,hy3⟩
 have hb3:=af hb2 hy3
 clear hy3 hb2 hcc ax hrr
 have HB3:=Lib.hid (af hB hb3)
 clear HB2 HU
 refine hK _ _ (ak hb3) ?_
 clear hK K
 repeat (first|(refine ah (by rfl) ?_)|(refine ai (by rfl) (by rfl) (fun K hK=>?_);go_big_quiet_op;refine hK _ ?_;clear hK K))
 refine iH ?_
 clear c0 c1 c2 c3 c4 c5
 obtain⟨hcc,ax,hrr⟩:=aK hb3
 have hsz:w.heap.size<w3.heap.size:=by have:=hb3.size;simp at this;omega
 go_wp2_with fail
 refine(afx _ _ (le_max hx.2.2.2)).mono ?_
 rintro e w4 ⟨rfl,rfl⟩
 have HB4:=HB3
 go_wp2_with fail
 go_ret
 exact⟨rfl,HB4.out⟩
theorem af7(x:aT)(s:Sl)(r:aC)(w:World)(hx:dV w s r x)(c0:¬x.i<1)(c1:¬1099511627776<x.i)(c2:¬x.t<1)(c3:¬2147483648<x.t)(c4:ag x.m 0 1099511627776=true)(c5:bJ x (dX x)=true)(hk:x.k=5):Calls Tryz.prog 8 #[.agg (aH x s r)] w fun e w'=>e=.returned (.bool (cZ x))∧Below w.heap.size w w':=by
 have HN:=Lib.hid (show cZ x=kindOk x by unfold cZ;rw[c5,show bD x=true by unfold bD;rw[c4];unfold ag;simp;omega];simp)
 have HK:=Lib.hid (TU hk)
 rw[HN.out]
 obtain⟨R,hR⟩:∃R,R=kindOk x:=⟨_,rfl⟩
 rw[←hR]
 have HR:=Lib.hid hR
 clear hR
 have e1:(x.k == 1)=false:=by simp[hk]
 have e2:(x.k == 2)=false:=by simp[hk]
 have e3:(x.k == 3)=false:=by simp[hk]
 have e4:(x.k == 4)=false:=by simp[hk]
 have e5:(x.k == 5)=true:=by simp[hk]
 clear hk
 have HR0:=Lib.hid (show bD x=true by unfold bD;rw[c4];unfold ag;simp;omega)
 have HU:=Lib.hid (oO hx)
 have hB:Below w.heap.size w (w.alloc (.cells (aj x.i x.t x.m x.k s x.n r x.d x.q x.pn x.f x.a x.b) 36)):=az (Below.refl _ _) _
 unfold aH
 go_enter Tryz.func8,Tryz.ntmps8
 go_wp2_with fail
 refine jr (Below.refl _ (w.alloc (.cells (aj x.i x.t x.m x.k s x.n r x.d x.q x.pn x.f x.a x.b) 36))) (by kernel_rfl) (by kernel_rfl) ?_
 intro w1 hb1
 obtain⟨hcc,ax,hrr⟩:=aK hb1
 repeat (first|(refine ah (by rfl) ?_)|(refine ai (by rfl) (by rfl) (fun K hK=>?_);go_big_quiet_op;refine hK _ ?_;clear hK K))
 try rw[show(decide (x.i<1))=false from decide_eq_false (by omega)]
 repeat (first|(refine ah (by rfl) ?_)|(refine ai (by rfl) (by rfl) (fun K hK=>?_);go_big_quiet_op;refine hK _ ?_;clear hK K))
 try rw[show(decide (1099511627776<x.i))=false from decide_eq_false (by omega)]
 repeat (first|(refine ah (by rfl) ?_)|(refine ai (by rfl) (by rfl) (fun K hK=>?_);go_big_quiet_op;refine hK _ ?_;clear hK K))
 try rw[show(decide (x.t<1))=false from decide_eq_false (by omega)]
 repeat (first|(refine ah (by rfl) ?_)|(refine ai (by rfl) (by rfl) (fun K hK=>?_);go_big_quiet_op;refine hK _ ?_;clear hK K))
 try rw[show(decide (2147483648<x.t))=false from decide_eq_false (by omega)]
 repeat (first|(refine ah (by rfl) ?_)|(refine ai (by rfl) (by rfl) (fun K hK=>?_);go_big_quiet_op;refine hK _ ?_;clear hK K))
 refine au (by rfl) (by rfl) (fun K hK=>?_)
 go_wp2_with fail
 refine(kN _ _).mono ?_
 rintro e w2 ⟨rfl,rfl⟩
 refine hK _ _ (ak hb1) ?_
 clear hK K
 repeat (first|(refine ah (by rfl) ?_)|(refine ai (by rfl) (by rfl) (fun K hK=>?_);go_big_quiet_op;refine hK _ ?_;clear hK K))
 refine au (by rfl) (by rfl) (fun K hK=>?_)
 go_wp2_with fail
 refine(wX x s r _).mono ?_
 rintro e w2 ⟨rfl,hy2⟩
 have hb2:=af hb1 hy2
 clear hy2
 have HB2:=Lib.hid (af hB hb2)
 refine hK _ _ (ak hb2) ?_
 clear hK K
 repeat (first|(refine ah (by rfl) ?_)|(refine ai (by rfl) (by rfl) (fun K hK=>?_);go_big_quiet_op;refine hK _ ?_;clear hK K))
 refine au (by rfl) (by rfl) (fun K hK=>?_)
 go_wp2_with fail
 refine(sF x (dX x) s (gB x s) r (gG x r) _ (hx.later HB2.out) (HU.out.later HB2.out)).mono ?_
 rintro e w3 ⟨rfl,hy3⟩
 have hb3:=af hb2 hy3
 clear hy3 hb2 hcc ax hrr
 have HB3:=Lib.hid (af hB hb3)
 clear HB2 HU
 refine hK _ _ (ak hb3) ?_
 clear hK K
 repeat (first|(refine ah (by rfl) ?_)|(refine ai (by rfl) (by rfl) (fun K hK=>?_);go_big_quiet_op;refine hK _ ?_;clear hK K))
 refine iH ?_
 clear c0 c1 c2 c3 c4 c5
 obtain⟨hcc,ax,hrr⟩:=aK hb3
 have hsz:w.heap.size<w3.heap.size:=by have:=hb3.size;simp at this;omega
 go_wp2_with fail
 refine(uf _ _ _ (hx.1.later HB3.out)).mono ?_
 rintro e w4 ⟨rfl,hy4⟩
 have HB4:=Lib.hid (af HB3.out hy4)
 have hb4:=af hb3 hy4
 clear hy4 hcc ax hrr hsz
 obtain⟨hcc,ax,hrr⟩:=aK hb4
 have hsz:w.heap.size<w4.heap.size:=by have:=hb4.size;simp at this;omega
 cases v1:aY x.n
 ·go_wp2_with (first|(go_at_call 33;refine(kN _ _).mono ?_;rintro e w' ⟨rfl,rfl⟩))
  go_ret
  exact⟨by rw[HR.out,HK.out,v1];rfl,HB4.out⟩
 cases v2:decide (0≤x.f)
 ·have v2':=of_decide_eq_false v2
  go_wp2_with (first|(go_at_call 33;refine(kN _ _).mono ?_;rintro e w' ⟨rfl,rfl⟩))
  go_ret
  exact⟨by rw[HR.out,HK.out,v1,show ag x.f 0 65535=(decide (0≤x.f)&&decide (x.f≤65535)) from rfl,v2];rfl,HB4.out⟩
 have v2':=of_decide_eq_true v2
 cases v3:decide (x.f≤65535)
 ·have v3':=of_decide_eq_false v3
  go_wp2_with (first|(go_at_call 33;refine(kN _ _).mono ?_;rintro e w' ⟨rfl,rfl⟩))
  go_ret
  exact⟨by rw[HR.out,HK.out,v1,show ag x.f 0 65535=(decide (0≤x.f)&&decide (x.f≤65535)) from rfl,v2,v3];rfl,HB4.out⟩
 have v3':=of_decide_eq_true v3
 cases v4:ag x.a 0 1099511627776
 ·go_wp2_with (first|(go_at_call 33;refine(kN _ _).mono ?_;rintro e w' ⟨rfl,rfl⟩))
  go_ret
  exact⟨by rw[HR.out,HK.out,v1,show ag x.f 0 65535=(decide (0≤x.f)&&decide (x.f≤65535)) from rfl,v2,v3,v4];rfl,HB4.out⟩
 go_wp2_with (first|(go_at_call 33;refine(kN _ _).mono ?_;rintro e w' ⟨rfl,rfl⟩))
 go_ret
 exact⟨by rw[HR.out,HK.out,v1,show ag x.f 0 65535=(decide (0≤x.f)&&decide (x.f≤65535)) from rfl,v2,v3,v4];rfl,HB4.out⟩
theorem af9(x:aT)(s:Sl)(r:aC)(w:World)(hx:dV w s r x)(c0:¬x.i<1)(c1:¬1099511627776<x.i)(c2:¬x.t<1)(c3:¬2147483648<x.t)(c4:ag x.m 0 1099511627776=true)(c5:bJ x (dX x)=true)(n1:x.k≠1)(n2:x.k≠2)(n3:x.k≠3)(n4:x.k≠4)(n5:x.k≠5):Calls Tryz.prog 8 #[.agg (aH x s r)] w fun e w'=>e=.returned (.bool (cZ x))∧Below w.heap.size w w':=by
 have HN:=Lib.hid (show cZ x=kindOk x by unfold cZ;rw[c5,show bD x=true by unfold bD;rw[c4];unfold ag;simp;omega];simp)
 have HK:=Lib.hid (TV n1 n2 n3 n4 n5)
 rw[HN.out,HK.out]
 have e1:(x.k == 1)=false:=by simp[n1]
 have e2:(x.k == 2)=false:=by simp[n2]
 have e3:(x.k == 3)=false:=by simp[n3]
 have e4:(x.k == 4)=false:=by simp[n4]
 have e5:(x.k == 5)=false:=by simp[n5]
 clear n1 n2 n3 n4 n5
 have HR0:=Lib.hid (show bD x=true by unfold bD;rw[c4];unfold ag;simp;omega)
 have HU:=Lib.hid (oO hx)
 have hB:Below w.heap.size w (w.alloc (.cells (aj x.i x.t x.m x.k s x.n r x.d x.q x.pn x.f x.a x.b) 36)):=az (Below.refl _ _) _
 unfold aH
 go_enter Tryz.func8,Tryz.ntmps8
 go_wp2_with fail
 refine jr (Below.refl _ (w.alloc (.cells (aj x.i x.t x.m x.k s x.n r x.d x.q x.pn x.f x.a x.b) 36))) (by kernel_rfl) (by kernel_rfl) ?_
 intro w1 hb1
 obtain⟨hcc,ax,hrr⟩:=aK hb1
 repeat (first|(refine ah (by rfl) ?_)|(refine ai (by rfl) (by rfl) (fun K hK=>?_);go_big_quiet_op;refine hK _ ?_;clear hK K))
 try rw[show(decide (x.i<1))=false from decide_eq_false (by omega)]
 repeat (first|(refine ah (by rfl) ?_)|(refine ai (by rfl) (by rfl) (fun K hK=>?_);go_big_quiet_op;refine hK _ ?_;clear hK K))
 try rw[show(decide (1099511627776<x.i))=false from decide_eq_false (by omega)]
 repeat (first|(refine ah (by rfl) ?_)|(refine ai (by rfl) (by rfl) (fun K hK=>?_);go_big_quiet_op;refine hK _ ?_;clear hK K))
 try rw[show(decide (x.t<1))=false from decide_eq_false (by omega)]
 repeat (first|(refine ah (by rfl) ?_)|(refine ai (by rfl) (by rfl) (fun K hK=>?_);go_big_quiet_op;refine hK _ ?_;clear hK K))
 try rw[show(decide (2147483648<x.t))=false from decide_eq_false (by omega)]
 repeat (first|(refine ah (by rfl) ?_)|(refine ai (by rfl) (by rfl) (fun K hK=>?_);go_big_quiet_op;refine hK _ ?_;clear hK K))
 refine au (by rfl) (by rfl) (fun K hK=>?_)
 go_wp2_with fail
 refine(kN _ _).mono ?_
 rintro e w2 ⟨rfl,rfl⟩
 refine hK _ _ (ak hb1) ?_
 clear hK K
 repeat (first|(refine ah (by rfl) ?_)|(refine ai (by rfl) (by rfl) (fun K hK=>?_);go_big_quiet_op;refine hK _ ?_;clear hK K))
 refine au (by rfl) (by rfl) (fun K hK=>?_)
 go_wp2_with fail
 refine(wX x s r _).mono ?_
 rintro e w2 ⟨rfl,hy2⟩
 have hb2:=af hb1 hy2
 clear hy2
 have HB2:=Lib.hid (af hB hb2)
 refine hK _ _ (ak hb2) ?_
 clear hK K
 repeat (first|(refine ah (by rfl) ?_)|(refine ai (by rfl) (by rfl) (fun K hK=>?_);go_big_quiet_op;refine hK _ ?_;clear hK K))
 refine au (by rfl) (by rfl) (fun K hK=>?_)
 go_wp2_with fail
 refine(sF x (dX x) s (gB x s) r (gG x r) _ (hx.later HB2.out) (HU.out.later HB2.out)).mono ?_
 rintro e w3 ⟨rfl,hy3⟩
 have hb3:=af hb2 hy3
 clear hy3 hb2 hcc ax hrr
 have HB3:=Lib.hid (af hB hb3)
 clear HB2 HU
 refine hK _ _ (ak hb3) ?_
 clear hK K
 repeat (first|(refine ah (by rfl) ?_)|(refine ai (by rfl) (by rfl) (fun K hK=>?_);go_big_quiet_op;refine hK _ ?_;clear hK K))
 refine iH ?_
 clear c0 c1 c2 c3 c4 c5
 obtain⟨hcc,ax,hrr⟩:=aK hb3
 have hsz:w.heap.size<w3.heap.size:=by have:=hb3.size;simp at this;omega
 go_wp2_with fail
 go_ret
 exact⟨rfl,HB3.out⟩
theorem Kw(x:aT)(s:Sl)(r:aC)(w:World)(hx:dV w s r x):Calls Tryz.prog 8 #[.agg (aH x s r)] w fun e w'=>e=.returned (.bool (cZ x))∧Below w.heap.size w w':=by
 by_cases c0:x.i<1
 ·exact afW x s r w c0
 by_cases c1:1099511627776<x.i
 ·exact afX x s r w c0 c1
 by_cases c2:x.t<1
 ·exact afY x s r w c0 c1 c2
 by_cases c3:2147483648<x.t
 ·exact afZ x s r w c0 c1 c2 c3
 cases c4:ag x.m 0 1099511627776
 ·exact af0 x s r w c0 c1 c2 c3 c4
 cases c5:bJ x (dX x)
 ·exact af1 x s r w hx c0 c1 c2 c3 c4 c5
 by_cases n1:x.k=1
 ·exact af2 x s r w hx c0 c1 c2 c3 c4 c5 n1
 by_cases n2:x.k=2
 ·exact af4 x s r w hx c0 c1 c2 c3 c4 c5 n2
 by_cases n3:x.k=3
 ·exact af5 x s r w hx c0 c1 c2 c3 c4 c5 n3
 by_cases n4:x.k=4
 ·exact af6 x s r w hx c0 c1 c2 c3 c4 c5 n4
 by_cases n5:x.k=5
 ·exact af7 x s r w hx c0 c1 c2 c3 c4 c5 n5
 exact af9 x s r w hx c0 c1 c2 c3 c4 c5 n1 n2 n3 n4 n5
theorem aga(r:aC)(d:Entry)(w:World)(he:iT w r d)(hok:fV d=true):Calls Tryz.prog 151 #[.agg (ay r d)] w fun e w'=>∃s:Sl,e=.returned (.tuple #[.slice s.a (jy d).length s.cap,.int .i64 0])∧Below w.heap.size w w'∧BytesAt w' s.a (jy d):=by
 have hB0:Below w.heap.size w (w.alloc (.cells (ay r d) 32)):=az (Below.refl _ _) _
 have lX:=he.later hB0
 have HF:=Lib.hid (Ee hok he.attrs.1)
 go_enter Tryz.func151,Tryz.ntmps151
 go_wp2_with fail
 refine(Rx _ _ _ lX).mono ?_
 rintro e w1 ⟨rfl,hb1⟩
 rw[hok]
 obtain⟨hcc,ax,hrr⟩:=aK hb1
 have hsz:w.heap.size<w1.heap.size:=by have:=hb1.size;simp at this;omega
 go_wp2_with fail
 refine(ad3 _ _ _ (lX.later hb1) HF.out).mono ?_
 rintro e w2 ⟨s2,rfl,hb2,hd2⟩
 have HB:=Lib.hid (And.intro (af (af hB0 hb1) hb2) hd2.out)
 clear lX hcc ax hrr hb1 hb2 hd2
 go_wp2_with fail
 go_ret2
 exact⟨s2,rfl,HB.out.1,HB.out.2⟩
def yN(w:World)(l:List (List UInt8))(e:Ending)(w':World):Prop:=∃s:Sl,e=.returned (.slice s.a l.length s.cap)∧Below w.heap.size w w'∧dH w' s.a l
theorem agb(x:aT)(s:Sl)(r:aC)(w:World)(hat:dV w s r x)(hk:x.k=1)(hok:fV x.d=true):Calls Tryz.prog 105 #[.agg (aH x s r)] w (yN w [dP (jy x.d)]):=by
 have hB0:Below w.heap.size w (w.alloc (.cells (aH x s r) 36)):=az (Below.refl _ _) _
 have ku:=hat.later hB0
 have e1:=IY (Ee hok hat.2.1.attrs.1)
 unfold aH at *
 rw[hk]at *
 go_enter Tryz.func105,Tryz.ntmps105
 go_wp2_with fail
 refine(aga _ _ _ ku.2.1 hok).mono ?_
 rintro e w1 ⟨s1,rfl,hb1,hB1⟩
 go_wp2_with fail
 refine(JO _ _ (jy x.d) _ hB1 (by omega)).mono ?_
 rintro e w2 ⟨s2,rfl,hb2,hd2⟩
 have hP:=(Ps.mid (⟨Below.refl _ _,by simp⟩:Ps w w []) (af (af hB0 hb1) hb2)).add (Below.refl _ _) hd2.out
 have HH:=Lib.hid (dH.lit (t:=41) _ rfl rfl hP.at_ (by simp[lim]))
 have sJ:=Lib.hid (az hP.b (.cells #[.slice s2.a (dP (jy x.d)).length s2.cap] 41))
 clear ku hat hb1 hB1 hb2 hd2 hP
 go_wp2_with fail
 go_ret
 exact⟨⟨some ⟨w2.heap.size,0,none⟩,1⟩,rfl,sJ.out,HH.out⟩
theorem agc(x:aT)(s:Sl)(r:aC)(w:World)(hat:dV w s r x)(hk:x.k=3)(hok:eX x.q=true)(ht:uF Tryz.prog w):Calls Tryz.prog 105 #[.agg (aH x s r)] w (yN w [bM (jY x.q)]):=by
 have hB0:Below w.heap.size w (w.alloc (.cells (aH x s r) 36)):=az (Below.refl _ _) _
 have ku:=hat.later hB0
 have e1:=J4 (EP hok)
 have EY:=lY ht hB0
 have hnm:=hat.2.2.1
 unfold aH at *
 rw[hk]at *
 go_enter Tryz.func105,Tryz.ntmps105
 go_wp2_with fail
 refine(aef _ _ hok hnm EY).mono ?_
 rintro e w1 ⟨rfl,hb1⟩
 go_wp2_with fail
 refine(Bj _ _ (Nat.le_trans e1 (by decide))).mono ?_
 rintro e w2 ⟨s2,rfl,hb2,hd2⟩
 have hP:=(Ps.mid (⟨Below.refl _ _,by simp⟩:Ps w w []) (af (af hB0 hb1) hb2)).add (Below.refl _ _) hd2.out
 have HH:=Lib.hid (dH.lit (t:=41) _ rfl rfl hP.at_ (by simp[lim]))
 have sJ:=Lib.hid (az hP.b (.cells #[.slice s2.a (bM (jY x.q)).length s2.cap] 41))
 clear ku hat hd2 hP
 go_wp2_with fail
 go_ret
 exact⟨⟨some ⟨w2.heap.size,0,none⟩,1⟩,rfl,sJ.out,HH.out⟩
theorem agd(x:aT)(s:Sl)(r:aC)(w:World)(hat:dV w s r x)(hk:x.k=4)(hok:x.pn.size≤32):Calls Tryz.prog 105 #[.agg (aH x s r)] w (yN w [bM x.pn]):=by
 have hB0:Below w.heap.size w (w.alloc (.cells (aH x s r) 36)):=az (Below.refl _ _) _
 have ku:=hat.later hB0
 unfold aH at *
 rw[hk]at *
 go_enter Tryz.func105,Tryz.ntmps105
 go_wp2_with fail
 refine(Bj _ _ (Nat.le_trans hok (by decide))).mono ?_
 rintro e w2 ⟨s2,rfl,hb2,hd2⟩
 have hP:=(Ps.mid (⟨Below.refl _ _,by simp⟩:Ps w w []) (af hB0 hb2)).add (Below.refl _ _) hd2.out
 have HH:=Lib.hid (dH.lit (t:=41) _ rfl rfl hP.at_ (by simp[lim]))
 have sJ:=Lib.hid (az hP.b (.cells #[.slice s2.a (bM x.pn).length s2.cap] 41))
 clear ku hat hd2 hP
 go_wp2_with fail
 go_ret
 exact⟨⟨some ⟨w2.heap.size,0,none⟩,1⟩,rfl,sJ.out,HH.out⟩
theorem age(x:aT)(s:Sl)(r:aC)(w:World)(hat:dV w s r x)(hk:x.k=2)(hok:aY x.n=true):Calls Tryz.prog 105 #[.agg (aH x s r)] w (yN w [bP x.n]):=by
 have hB0:Below w.heap.size w (w.alloc (.cells (aH x s r) 36)):=az (Below.refl _ _) _
 have ku:=hat.later hB0
 unfold aH at *
 rw[hk]at *
 go_enter Tryz.func105,Tryz.ntmps105
 go_wp2_with fail
 refine(JW _ _ _ ku.1 hok).mono ?_
 rintro e w2 ⟨s2,rfl,hb2,hd2⟩
 obtain⟨hcc,ax,hrr⟩:=aK hb2
 have hsz:w.heap.size<w2.heap.size:=by have:=hb2.size;simp at this;omega
 have hP:=(Ps.mid (⟨Below.refl _ _,by simp⟩:Ps w w []) (af hB0 hb2)).add (Below.refl _ _) hd2.out
 have HH:=Lib.hid (dH.lit (t:=41) _ rfl rfl hP.at_ (by simp[lim]))
 have sJ:=Lib.hid (az hP.b (.cells #[.slice s2.a (bP x.n).length s2.cap] 41))
 clear ku hat hd2 hP
 go_wp2_with fail
 go_ret
 exact⟨⟨some ⟨w2.heap.size,0,none⟩,1⟩,rfl,sJ.out,HH.out⟩
theorem agf(x:aT)(s:Sl)(r:aC)(w:World)(hat:dV w s r x)(hk:x.k=5)(hok:aY x.n=true)(hf:0≤x.f∧x.f≤65535)(ha:0≤x.a∧x.a≤1099511627776)(hb:0≤x.b∧x.b≤1099511627776):Calls Tryz.prog 105 #[.agg (aH x s r)] w (yN w [bP x.n,aA x.f.toNat,bf x.a.toNat,bf x.b.toNat]):=by
 have hB0:Below w.heap.size w (w.alloc (.cells (aH x s r) 36)):=az (Below.refl _ _) _
 have ku:=hat.later hB0
 unfold aH at *
 rw[hk]at *
 go_enter Tryz.func105,Tryz.ntmps105
 go_wp2_with fail
 refine(JW _ _ _ ku.1 hok).mono ?_
 rintro e w1 ⟨s1,rfl,hb1,hd1⟩
 obtain⟨hcc,ax,hrr⟩:=aK hb1
 have hsz:w.heap.size<w1.heap.size:=by have:=hb1.size;simp at this;omega
 have hB1:=af hB0 hb1
 have hn1:=hd1.out
 clear ku hat hb1 hd1
 go_wp2_with fail
 refine jr (Below.refl _ w1) (by kernel_rfl) (by kernel_rfl) ?_
 intro v0 hv0
 have hP0:Ps w1 v0 [(s1,bP x.n)]:=⟨hv0,fun y hy=>by simp only[List.mem_cons,List.not_mem_nil,or_false]at hy;subst hy;exact hn1.later hv0⟩
 repeat (first|(refine ah (by rfl) ?_)|(refine ai (by rfl) (by rfl) (fun K hK=>?_);go_big_quiet_op;refine hK _ ?_;clear hK K))
 refine au (by rfl) (by rfl) (fun K hK=>?_)
 go_wp2_with fail
 refine(uB _ _ hf.1 (by omega)).mono ?_
 rintro e v1 ⟨t1,rfl,hc1,hd1⟩
 have hP1:=hP0.add hc1 hd1.out
 clear hP0 hc1 hd1
 refine hK _ _ (ak hP1.b) ?_
 clear hK K
 repeat (first|(refine ah (by rfl) ?_)|(refine ai (by rfl) (by rfl) (fun K hK=>?_);go_big_quiet_op;refine hK _ ?_;clear hK K))
 refine au (by rfl) (by rfl) (fun K hK=>?_)
 go_wp2_with fail
 refine(Bl _ _ ha.1 ha.2).mono ?_
 rintro e v2 ⟨t2,rfl,hc2,hd2⟩
 have hP2:=hP1.add hc2 hd2.out
 clear hP1 hc2 hd2
 refine hK _ _ (ak hP2.b) ?_
 clear hK K
 repeat (first|(refine ah (by rfl) ?_)|(refine ai (by rfl) (by rfl) (fun K hK=>?_);go_big_quiet_op;refine hK _ ?_;clear hK K))
 refine au (by rfl) (by rfl) (fun K hK=>?_)
 go_wp2_with fail
 refine(Bl _ _ hb.1 hb.2).mono ?_
 rintro e v3 ⟨t3,rfl,hc3,hd3⟩
 have hP3:=hP2.add hc3 hd3.out
 clear hP2 hc3 hd3
 refine hK _ _ (ak hP3.b) ?_
 clear hK K
 repeat (first|(refine ah (by rfl) ?_)|(refine ai (by rfl) (by rfl) (fun K hK=>?_);go_big_quiet_op;refine hK _ ?_;clear hK K))
 refine au (by rfl) (by rfl) (fun K hK=>?_)
 go_wp2_with fail
 refine hK _ _ (ak (az hP3.b _)) ?_
 clear hK K
 repeat (first|(refine ah (by rfl) ?_)|(refine ai (by rfl) (by rfl) (fun K hK=>?_);go_big_quiet_op;refine hK _ ?_;clear hK K))
 refine iH ?_
 have HH:=Lib.hid (dH.lit (t:=41) _ rfl rfl hP3.at_ (by simp[lim]))
 have sJ:=Lib.hid (af hB1 (az hP3.b (.cells #[.slice s1.a (bP x.n).length s1.cap,.slice t1.a (aA x.f.toNat).length t1.cap,.slice t2.a (bf x.a.toNat).length t2.cap,.slice t3.a (bf x.b.toNat).length t3.cap] 41)))
 clear hP3 hcc ax hrr
 go_wp2_with fail
 go_ret
 exact⟨⟨some ⟨v3.heap.size,0,none⟩,4⟩,rfl,sJ.out,HH.out⟩
theorem agh(x:aT)(s:Sl)(r:aC)(w:World)(hat:dV w s r x)(hf:wM x)(ht:uF Tryz.prog w):Calls Tryz.prog 105 #[.agg (aH x s r)] w (yN w (dO x)):=by
 rcases(show x.k=1∨x.k=2∨x.k=3∨x.k=4∨x.k=5 by have:=hf.k;omega)with hk|hk|hk|hk|hk
 ·rw[show dO x=[dP (jy x.d)] by unfold dO;simp[hk]];exact agb x s r w hat hk (hf.put hk)
 ·rw[show dO x=[bP x.n] by unfold dO;simp[hk]];exact age x s r w hat hk (hf.rem hk)
 ·rw[show dO x=[bM (jY x.q)] by unfold dO;simp[hk]];exact agc x s r w hat hk (hf.BH hk) ht
 ·rw[show dO x=[bM x.pn] by unfold dO;simp[hk]];exact agd x s r w hat hk (hf.J3 hk)
 ·rw[show dO x=[bP x.n,aA x.f.toNat,bf x.a.toNat,bf x.b.toNat] by unfold dO;simp[hk]]
  obtain⟨h1,h2,h3,h4⟩:=hf.touch hk
  exact agf x s r w hat hk h1 h2 h3 h4
end Go.Proofs.YtibhckkjciflaaaGreatDoor
namespace Go.WW
open Go.RowKit
section
variable {P:Program} {ops:Array Oper} {S:World→Prop} {st:Oper→Bool} {Q:Act→World→Prop}
structure amZ(st:Oper→Bool)(ops:Array Oper)(m:Array (List Nat))(x c:Nat):Prop where
 tV:Region.noSelect ops=true
 back:∀j oj,ops[j]?=some oj→∀e∈oj.after,Region.binds .any e=true→e.on<j
 pred:∀j oj,ops[j]?=some oj→∀i∈m.getD j [],∃e∈oj.after,Region.binds .any e=true∧(e.on=i∨i∈m.getD e.on [])
 pair:∀j oj,ops[j]?=some oj→∀i,i<j→∀oi,ops[i]?=some oi→(∃e∈oj.after,Region.binds .any e=true∧e.on=i)∨(oi.apart ops oj=true∧(st oi=true∨st oj=true∨i∈m.getD j []∨(i=c∧j=x)))
 past:∀i oi ox,ops[i]?=some oi→ops[x]?=some ox→c<i→i<x→ox.apart ops oi=true∧st oi=true
 look:∀i oi,ops[i]?=some oi→i≠x→i≠c→st oi=true∨c∈m.getD i []
 lt:c<x
def mv(x c:Nat)(L:List Nat):List Nat:=L.filter (fun k=>decide (k<c))++x::L.filter (fun k=>decide (c≤k)&&decide (k≠x))
theorem Uc(c:Nat):∀(L:List Nat),L.Pairwise (· < ·)→L.filter (fun k=>decide (k<c))++L.filter (fun k=>decide (c≤k))=L
 | [],_=>rfl
 |k::L,h=>by
  have hp:=List.pairwise_cons.1 h
  by_cases hk:k<c
  ·have ih:=Uc c L hp.2
   simp[hk,show ¬c≤k by omega,ih]
  ·have h1:L.filter (fun k=>decide (k<c))=[]:=by rw[List.filter_eq_nil_iff];intro y hy;have:=hp.1 y hy;simp;omega
   have h2:L.filter (fun k=>decide (c≤k))=L:=by rw[List.filter_eq_self];intro y hy;have:=hp.1 y hy;simp;omega
   simp[hk,show c≤k by omega,h1,h2]
def am0(st:Oper→Bool)(ops:Array Oper)(x c:Nat):Bool:=
 let m:=Ag st ops
 Region.noSelect ops&&decide (c<x)&&(List.range ops.size).all fun j=>match ops[j]? with
  |none=>true
  |some oj=>
   oj.after.toList.all (fun e=>!Region.binds .any e || decide (e.on<j))&&
   (m.getD j []).all (fun i=>oj.after.toList.any fun e=>Region.binds .any e&&(e.on == i || (m.getD e.on []).contains i))&&
   ((List.range j).all fun i=>match ops[i]? with
    |none=>true
    |some oi=>oj.after.toList.any (fun e=>Region.binds .any e&&e.on == i) || (oi.apart ops oj&&(st oi || st oj || (m.getD j []).contains i || (i == c&&j == x))))&&
   (j == x || j == c || st oj || (m.getD j []).contains c)&&
   (match ops[x]? with
    |none=>true
    |some ox=>!(decide (c<j)&&decide (j<x)) || (ox.apart ops oj&&st oj))
def pick(l:List Oper):List Nat→List Oper
 | []=>[]
 |i::is=>match l[i]? with|some o=>o::pick l is|none=>pick l is
theorem EZ(l:List Oper):∀is,pick l is=is.filterMap (l.toArray[·]?)
 | []=>rfl
 |i::is=>by
  rw[pick,EZ l is]
  cases h:l[i]? with
  |none=>rw[List.filterMap_cons_none (by simpa using h)]
  |some o=>rw[List.filterMap_cons_some (by simpa using h)]
end
end Go.WW
