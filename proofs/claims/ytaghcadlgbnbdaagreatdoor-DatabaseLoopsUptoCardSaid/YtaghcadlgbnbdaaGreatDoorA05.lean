/- A part of the proof. -/
import Derived.Test.YtaghcadlgbnbdaaGreatDoorA04
import Derived.Test.YtaghcadlgbnbdaaGreatDoorA01
import Derived.Deep.RegionWith
import Derived.BigRegion
import Derived.Test.YtaghcadlgbnbdaaGreatDoorA03
set_option maxRecDepth 100000
set_option maxHeartbeats 8000000
namespace Go.WW
open Go.RowKit
def afE(w:World)(d:Entry)(e:Ending)(w':World):Prop:=∃r:aI,e=.returned (.agg (ae r d))∧Below w.heap.size w w'∧aZ w' (fresh w.heap.size w') (fun x=>kY w.heap.size x r d)
theorem nX.le{m m':Nat}{w:World}{a:Option Addr}{l:List aW}(h:nX m w a l)(hm:m'≤m):nX m' w a l:=⟨aO.imp h.1 fun _ _ ⟨p,s,h1,h2,h3⟩=>⟨p,s,h1,h2,h3.le hm⟩,h.2.le hm⟩
end Go.WW
namespace Go.Proofs.YtaghcadlgbnbdaaGreatDoor
open Go.RowKit Go.WW
theorem Vr(r:aI)(d:Entry)(w:World)(he:bz w r d):Calls Tryz.prog 31 #[.agg (ae r d)] w (afE w d):=by
 have hB0:Below w.heap.size w ((w.alloc (.cells (ae r d) 32)).alloc (.cells #[.slice none 0 0,.string ⟨#[]⟩,.slice none 0 0,.int .u32 0,.int .i64 0,.slice none 0 0,.string ⟨#[]⟩,.int .i64 0,.int .i64 0,.int .i64 0,.int .i64 0,.int .i64 0,.int .i64 0,.int .i64 0,.slice none 0 0,.slice none 0 0,.slice none 0 0] 32)):=((Below.refl _ w).alloc (Nat.le_refl _) _).alloc (by simp) _
 have hx0:((w.alloc (.cells (ae r d) 32)).alloc (.cells #[.slice none 0 0,.string ⟨#[]⟩,.slice none 0 0,.int .u32 0,.int .i64 0,.slice none 0 0,.string ⟨#[]⟩,.int .i64 0,.int .i64 0,.int .i64 0,.int .i64 0,.int .i64 0,.int .i64 0,.int .i64 0,.slice none 0 0,.slice none 0 0,.slice none 0 0] 32)).heap[w.heap.size]?=some (.cells (ae r d) 32):=lS w _ _
 have hz0:aJ ((w.alloc (.cells (ae r d) 32)).alloc (.cells #[.slice none 0 0,.string ⟨#[]⟩,.slice none 0 0,.int .u32 0,.int .i64 0,.slice none 0 0,.string ⟨#[]⟩,.int .i64 0,.int .i64 0,.int .i64 0,.int .i64 0,.int .i64 0,.int .i64 0,.int .i64 0,.slice none 0 0,.slice none 0 0,.slice none 0 0] 32)) (w.heap.size+1) 0 17=true:=by simp[go_sem]
 have hs0:w.heap.size+1<((w.alloc (.cells (ae r d) 32)).alloc (.cells #[.slice none 0 0,.string ⟨#[]⟩,.slice none 0 0,.int .u32 0,.int .i64 0,.slice none 0 0,.string ⟨#[]⟩,.int .i64 0,.int .i64 0,.int .i64 0,.int .i64 0,.int .i64 0,.int .i64 0,.int .i64 0,.slice none 0 0,.slice none 0 0,.slice none 0 0] 32)).heap.size:=by simp
 have hne:w.heap.size+1≠w.heap.size:=by omega
 go_enter Tryz.func31,Tryz.ntmps31
 go_wp2_with fail
 generalize (w.alloc (.cells (ae r d) 32)).alloc (.cells #[.slice none 0 0,.string ⟨#[]⟩,.slice none 0 0,.int .u32 0,.int .i64 0,.slice none 0 0,.string ⟨#[]⟩,.int .i64 0,.int .i64 0,.int .i64 0,.int .i64 0,.int .i64 0,.int .i64 0,.int .i64 0,.slice none 0 0,.slice none 0 0,.slice none 0 0] 32)=W0 at *
 refine(Nv _ _ _ (he.name.later hB0)).mono ?_
 rintro e V0 ⟨s0,rfl,hb0,hd0⟩
 have hy0:=(hb0.block w.heap.size (by omega)).trans hx0
 obtain⟨hc,hf,hr,hlt⟩:=ai hy0
 have hx1:(putRow V0 w.heap.size 0 (ak s0 d.name)).heap[w.heap.size]?=some (.cells (ae {r with parts:=s0} d) 32):=(pX hy0 (by simp[go_sem])).trans (by rfl)
 have hcp:aJ V0 w.heap.size 0 2=true:=nO hy0 (by simp[go_sem])
 have hB1:Below w.heap.size w (putRow V0 w.heap.size 0 (ak s0 d.name)):=Go.WW.Below.putRow (ag hB0 hb0) (Nat.le_refl _)
 have hz1:aJ (putRow V0 w.heap.size 0 (ak s0 d.name)) (w.heap.size+1) 0 17=true:=by rw[TJ hne,gY hb0 _ _ _ (by omega)];exact hz0
 have hs1:w.heap.size+1<(putRow V0 w.heap.size 0 (ak s0 d.name)).heap.size:=by have:=hb0.size;rw[jS];omega
 have Vs:aZ (putRow V0 w.heap.size 0 (ak s0 d.name)) (fun k=>w.heap.size+1<k∧k<(putRow V0 w.heap.size 0 (ak s0 d.name)).heap.size) (fun x=>xF w.heap.size x s0 d.name):=(show aZ V0 (fresh W0.heap.size V0) (fun x=>xF w.heap.size x s0 d.name) from fun x hx=>⟨(hd0 x hx).1,(hd0 x hx).2.le hB0.size⟩).to (fun k hk=>by have h1:=hk.1;first|exact jh (by omega)|exact Below.heap_setCell _ _ _ _ (by simp;omega)) (fun k hk=>⟨by have h1:=hk.1;omega,by have h2:=hk.2;first|(rw[jS];exact h2)|(simp only[World.setCell,Array.size_modify];exact h2)⟩)
 clear hx0 hz0 hs0 hy0 hb0 hd0 hB0
 obtain⟨hc2,hf2,hr2,hlt2⟩:=ai hx1
 have HX:=Lib.hid hx1
 clear hx1
 go_wp2_with fail
 have hx1:=HX.out
 clear HX hc hf hr hlt hc2 hf2 hr2 hlt2 hcp
 generalize putRow V0 w.heap.size 0 (ak s0 d.name)=W1 at *
 refine(Vm _ _ _ _ (he.aliases.later hB1)).mono ?_
 rintro e V1 ⟨s1,rfl,hb1,hd1⟩
 have hy1:=(hb1.block w.heap.size (by omega)).trans hx1
 obtain⟨hc,hf,hr,hlt⟩:=ai hy1
 have hx2:(V1.setCell ⟨w.heap.size,2,none⟩ (.slice s1.a d.aliases.length s1.cap)).heap[w.heap.size]?=some (.cells (ae {r with parts:=s0,aliases:=s1} d) 32):=(cZ _ hy1).trans (by rfl)
 have hB2:Below w.heap.size w (V1.setCell ⟨w.heap.size,2,none⟩ (.slice s1.a d.aliases.length s1.cap)):=(ag hB1 hb1).setCell (Nat.le_refl _) _
 have hz2:aJ (V1.setCell ⟨w.heap.size,2,none⟩ (.slice s1.a d.aliases.length s1.cap)) (w.heap.size+1) 0 17=true:=by rw[kW hne,gY hb1 _ _ _ (by omega)];exact hz1
 have hs2:w.heap.size+1<(V1.setCell ⟨w.heap.size,2,none⟩ (.slice s1.a d.aliases.length s1.cap)).heap.size:=by have:=hb1.size;simp only[World.setCell,Array.size_modify];omega
 have Vt:aZ (V1.setCell ⟨w.heap.size,2,none⟩ (.slice s1.a d.aliases.length s1.cap)) (fun k=>w.heap.size+1<k∧k<(V1.setCell ⟨w.heap.size,2,none⟩ (.slice s1.a d.aliases.length s1.cap)).heap.size) (fun x=>xF w.heap.size x s0 d.name):=Vs.to (fun k hk=>by have h1:=hk.1;have h2:=hk.2;rw[Below.heap_setCell _ _ _ _ (by simp;omega)];exact hb1.block k h2) (fun k hk=>⟨hk.1,by have h2:=hk.2;have h3:=hb1.size;simp only[World.setCell,Array.size_modify];omega⟩)
 have Vu:aZ (V1.setCell ⟨w.heap.size,2,none⟩ (.slice s1.a d.aliases.length s1.cap)) (fun k=>w.heap.size+1<k∧k<(V1.setCell ⟨w.heap.size,2,none⟩ (.slice s1.a d.aliases.length s1.cap)).heap.size) (fun x=>yP w.heap.size x s1.a d.aliases):=(show aZ V1 (fresh W1.heap.size V1) (fun x=>yP w.heap.size x s1.a d.aliases) from fun x hx=>⟨(hd1 x hx).1,(hd1 x hx).2.le hB1.size⟩).to (fun k hk=>by have h1:=hk.1;first|exact jh (by omega)|exact Below.heap_setCell _ _ _ _ (by simp;omega)) (fun k hk=>⟨by have h1:=hk.1;omega,by have h2:=hk.2;first|(rw[jS];exact h2)|(simp only[World.setCell,Array.size_modify];exact h2)⟩)
 clear hx1 hz1 hs1 hy1 hb1 hd1 hB1 Vs
 obtain⟨hc2,hf2,hr2,hlt2⟩:=ai hx2
 have HX:=Lib.hid hx2
 clear hx2
 go_wp2_with fail
 have hx2:=HX.out
 clear HX hc hf hr hlt hc2 hf2 hr2 hlt2
 generalize V1.setCell ⟨w.heap.size,2,none⟩ (.slice s1.a d.aliases.length s1.cap)=W2 at *
 refine(afD _ _ _ _ (he.keys.later hB2)).mono ?_
 rintro e V2 ⟨s2,rfl,hb2,hd2⟩
 have hy2:=(hb2.block w.heap.size (by omega)).trans hx2
 obtain⟨hc,hf,hr,hlt⟩:=ai hy2
 have hx3:(V2.setCell ⟨w.heap.size,5,none⟩ (.slice s2.a d.keys.length s2.cap)).heap[w.heap.size]?=some (.cells (ae {r with parts:=s0,aliases:=s1,keys:=s2} d) 32):=(cZ _ hy2).trans (by rfl)
 have hB3:Below w.heap.size w (V2.setCell ⟨w.heap.size,5,none⟩ (.slice s2.a d.keys.length s2.cap)):=(ag hB2 hb2).setCell (Nat.le_refl _) _
 have hz3:aJ (V2.setCell ⟨w.heap.size,5,none⟩ (.slice s2.a d.keys.length s2.cap)) (w.heap.size+1) 0 17=true:=by rw[kW hne,gY hb2 _ _ _ (by omega)];exact hz2
 have hs3:w.heap.size+1<(V2.setCell ⟨w.heap.size,5,none⟩ (.slice s2.a d.keys.length s2.cap)).heap.size:=by have:=hb2.size;simp only[World.setCell,Array.size_modify];omega
 have Vw:aZ (V2.setCell ⟨w.heap.size,5,none⟩ (.slice s2.a d.keys.length s2.cap)) (fun k=>w.heap.size+1<k∧k<(V2.setCell ⟨w.heap.size,5,none⟩ (.slice s2.a d.keys.length s2.cap)).heap.size) (fun x=>xF w.heap.size x s0 d.name):=Vt.to (fun k hk=>by have h1:=hk.1;have h2:=hk.2;rw[Below.heap_setCell _ _ _ _ (by simp;omega)];exact hb2.block k h2) (fun k hk=>⟨hk.1,by have h2:=hk.2;have h3:=hb2.size;simp only[World.setCell,Array.size_modify];omega⟩)
 have Vx:aZ (V2.setCell ⟨w.heap.size,5,none⟩ (.slice s2.a d.keys.length s2.cap)) (fun k=>w.heap.size+1<k∧k<(V2.setCell ⟨w.heap.size,5,none⟩ (.slice s2.a d.keys.length s2.cap)).heap.size) (fun x=>yP w.heap.size x s1.a d.aliases):=Vu.to (fun k hk=>by have h1:=hk.1;have h2:=hk.2;rw[Below.heap_setCell _ _ _ _ (by simp;omega)];exact hb2.block k h2) (fun k hk=>⟨hk.1,by have h2:=hk.2;have h3:=hb2.size;simp only[World.setCell,Array.size_modify];omega⟩)
 have Vy:aZ (V2.setCell ⟨w.heap.size,5,none⟩ (.slice s2.a d.keys.length s2.cap)) (fun k=>w.heap.size+1<k∧k<(V2.setCell ⟨w.heap.size,5,none⟩ (.slice s2.a d.keys.length s2.cap)).heap.size) (fun x=>nX w.heap.size x s2.a d.keys):=(show aZ V2 (fresh W2.heap.size V2) (fun x=>nX w.heap.size x s2.a d.keys) from fun x hx=>(hd2 x hx).le hB2.size).to (fun k hk=>by have h1:=hk.1;first|exact jh (by omega)|exact Below.heap_setCell _ _ _ _ (by simp;omega)) (fun k hk=>⟨by have h1:=hk.1;omega,by have h2:=hk.2;first|(rw[jS];exact h2)|(simp only[World.setCell,Array.size_modify];exact h2)⟩)
 clear hx2 hz2 hs2 hy2 hb2 hd2 hB2 Vt Vu
 obtain⟨hc2,hf2,hr2,hlt2⟩:=ai hx3
 have HX:=Lib.hid hx3
 clear hx3
 go_wp2_with fail
 have hx3:=HX.out
 clear HX hc hf hr hlt hc2 hf2 hr2 hlt2
 generalize V2.setCell ⟨w.heap.size,5,none⟩ (.slice s2.a d.keys.length s2.cap)=W3 at *
 refine(Nw _ _ _ _ (he.targets.later hB3)).mono ?_
 rintro e V3 ⟨s3,rfl,hb3,hd3⟩
 have hy3:=(hb3.block w.heap.size (by omega)).trans hx3
 obtain⟨hc,hf,hr,hlt⟩:=ai hy3
 have hx4:(V3.setCell ⟨w.heap.size,14,none⟩ (.slice s3.a d.targets.length s3.cap)).heap[w.heap.size]?=some (.cells (ae {r with parts:=s0,aliases:=s1,keys:=s2,targets:=s3} d) 32):=(cZ _ hy3).trans (by rfl)
 have hB4:Below w.heap.size w (V3.setCell ⟨w.heap.size,14,none⟩ (.slice s3.a d.targets.length s3.cap)):=(ag hB3 hb3).setCell (Nat.le_refl _) _
 have Ei:aJ (V3.setCell ⟨w.heap.size,14,none⟩ (.slice s3.a d.targets.length s3.cap)) (w.heap.size+1) 0 17=true:=by rw[kW hne,gY hb3 _ _ _ (by omega)];exact hz3
 have hs4:w.heap.size+1<(V3.setCell ⟨w.heap.size,14,none⟩ (.slice s3.a d.targets.length s3.cap)).heap.size:=by have:=hb3.size;simp only[World.setCell,Array.size_modify];omega
 have Vz:aZ (V3.setCell ⟨w.heap.size,14,none⟩ (.slice s3.a d.targets.length s3.cap)) (fun k=>w.heap.size+1<k∧k<(V3.setCell ⟨w.heap.size,14,none⟩ (.slice s3.a d.targets.length s3.cap)).heap.size) (fun x=>xF w.heap.size x s0 d.name):=Vw.to (fun k hk=>by have h1:=hk.1;have h2:=hk.2;rw[Below.heap_setCell _ _ _ _ (by simp;omega)];exact hb3.block k h2) (fun k hk=>⟨hk.1,by have h2:=hk.2;have h3:=hb3.size;simp only[World.setCell,Array.size_modify];omega⟩)
 have VA:aZ (V3.setCell ⟨w.heap.size,14,none⟩ (.slice s3.a d.targets.length s3.cap)) (fun k=>w.heap.size+1<k∧k<(V3.setCell ⟨w.heap.size,14,none⟩ (.slice s3.a d.targets.length s3.cap)).heap.size) (fun x=>yP w.heap.size x s1.a d.aliases):=Vx.to (fun k hk=>by have h1:=hk.1;have h2:=hk.2;rw[Below.heap_setCell _ _ _ _ (by simp;omega)];exact hb3.block k h2) (fun k hk=>⟨hk.1,by have h2:=hk.2;have h3:=hb3.size;simp only[World.setCell,Array.size_modify];omega⟩)
 have VB:aZ (V3.setCell ⟨w.heap.size,14,none⟩ (.slice s3.a d.targets.length s3.cap)) (fun k=>w.heap.size+1<k∧k<(V3.setCell ⟨w.heap.size,14,none⟩ (.slice s3.a d.targets.length s3.cap)).heap.size) (fun x=>nX w.heap.size x s2.a d.keys):=Vy.to (fun k hk=>by have h1:=hk.1;have h2:=hk.2;rw[Below.heap_setCell _ _ _ _ (by simp;omega)];exact hb3.block k h2) (fun k hk=>⟨hk.1,by have h2:=hk.2;have h3:=hb3.size;simp only[World.setCell,Array.size_modify];omega⟩)
 have VC:aZ (V3.setCell ⟨w.heap.size,14,none⟩ (.slice s3.a d.targets.length s3.cap)) (fun k=>w.heap.size+1<k∧k<(V3.setCell ⟨w.heap.size,14,none⟩ (.slice s3.a d.targets.length s3.cap)).heap.size) (fun x=>eG x s3.a d.targets):=hd3.to (fun k hk=>by have h1:=hk.1;first|exact jh (by omega)|exact Below.heap_setCell _ _ _ _ (by simp;omega)) (fun k hk=>⟨by have h1:=hk.1;omega,by have h2:=hk.2;first|(rw[jS];exact h2)|(simp only[World.setCell,Array.size_modify];exact h2)⟩)
 clear hx3 hz3 hs3 hy3 hb3 hd3 hB3 Vw Vx Vy
 obtain⟨hc2,hf2,hr2,hlt2⟩:=ai hx4
 have HX:=Lib.hid hx4
 clear hx4
 go_wp2_with fail
 have hx4:=HX.out
 clear HX hc hf hr hlt hc2 hf2 hr2 hlt2
 generalize V3.setCell ⟨w.heap.size,14,none⟩ (.slice s3.a d.targets.length s3.cap)=W4 at *
 refine(Nw _ _ _ _ (he.bH.later hB4)).mono ?_
 rintro e V4 ⟨s4,rfl,hb4,hd4⟩
 have hy4:=(hb4.block w.heap.size (by omega)).trans hx4
 obtain⟨hc,hf,hr,hlt⟩:=ai hy4
 have hx5:(V4.setCell ⟨w.heap.size,15,none⟩ (.slice s4.a d.bH.length s4.cap)).heap[w.heap.size]?=some (.cells (ae {r with parts:=s0,aliases:=s1,keys:=s2,targets:=s3,bH:=s4} d) 32):=(cZ _ hy4).trans (by rfl)
 have yQ:Below w.heap.size w (V4.setCell ⟨w.heap.size,15,none⟩ (.slice s4.a d.bH.length s4.cap)):=(ag hB4 hb4).setCell (Nat.le_refl _) _
 have VD:aJ (V4.setCell ⟨w.heap.size,15,none⟩ (.slice s4.a d.bH.length s4.cap)) (w.heap.size+1) 0 17=true:=by rw[kW hne,gY hb4 _ _ _ (by omega)];exact Ei
 have hs5:w.heap.size+1<(V4.setCell ⟨w.heap.size,15,none⟩ (.slice s4.a d.bH.length s4.cap)).heap.size:=by have:=hb4.size;simp only[World.setCell,Array.size_modify];omega
 have VF:aZ (V4.setCell ⟨w.heap.size,15,none⟩ (.slice s4.a d.bH.length s4.cap)) (fun k=>w.heap.size+1<k∧k<(V4.setCell ⟨w.heap.size,15,none⟩ (.slice s4.a d.bH.length s4.cap)).heap.size) (fun x=>xF w.heap.size x s0 d.name):=Vz.to (fun k hk=>by have h1:=hk.1;have h2:=hk.2;rw[Below.heap_setCell _ _ _ _ (by simp;omega)];exact hb4.block k h2) (fun k hk=>⟨hk.1,by have h2:=hk.2;have h3:=hb4.size;simp only[World.setCell,Array.size_modify];omega⟩)
 have VG:aZ (V4.setCell ⟨w.heap.size,15,none⟩ (.slice s4.a d.bH.length s4.cap)) (fun k=>w.heap.size+1<k∧k<(V4.setCell ⟨w.heap.size,15,none⟩ (.slice s4.a d.bH.length s4.cap)).heap.size) (fun x=>yP w.heap.size x s1.a d.aliases):=VA.to (fun k hk=>by have h1:=hk.1;have h2:=hk.2;rw[Below.heap_setCell _ _ _ _ (by simp;omega)];exact hb4.block k h2) (fun k hk=>⟨hk.1,by have h2:=hk.2;have h3:=hb4.size;simp only[World.setCell,Array.size_modify];omega⟩)
 have VH:aZ (V4.setCell ⟨w.heap.size,15,none⟩ (.slice s4.a d.bH.length s4.cap)) (fun k=>w.heap.size+1<k∧k<(V4.setCell ⟨w.heap.size,15,none⟩ (.slice s4.a d.bH.length s4.cap)).heap.size) (fun x=>nX w.heap.size x s2.a d.keys):=VB.to (fun k hk=>by have h1:=hk.1;have h2:=hk.2;rw[Below.heap_setCell _ _ _ _ (by simp;omega)];exact hb4.block k h2) (fun k hk=>⟨hk.1,by have h2:=hk.2;have h3:=hb4.size;simp only[World.setCell,Array.size_modify];omega⟩)
 have VI:aZ (V4.setCell ⟨w.heap.size,15,none⟩ (.slice s4.a d.bH.length s4.cap)) (fun k=>w.heap.size+1<k∧k<(V4.setCell ⟨w.heap.size,15,none⟩ (.slice s4.a d.bH.length s4.cap)).heap.size) (fun x=>eG x s3.a d.targets):=VC.to (fun k hk=>by have h1:=hk.1;have h2:=hk.2;rw[Below.heap_setCell _ _ _ _ (by simp;omega)];exact hb4.block k h2) (fun k hk=>⟨hk.1,by have h2:=hk.2;have h3:=hb4.size;simp only[World.setCell,Array.size_modify];omega⟩)
 have VJ:aZ (V4.setCell ⟨w.heap.size,15,none⟩ (.slice s4.a d.bH.length s4.cap)) (fun k=>w.heap.size+1<k∧k<(V4.setCell ⟨w.heap.size,15,none⟩ (.slice s4.a d.bH.length s4.cap)).heap.size) (fun x=>eG x s4.a d.bH):=hd4.to (fun k hk=>by have h1:=hk.1;first|exact jh (by omega)|exact Below.heap_setCell _ _ _ _ (by simp;omega)) (fun k hk=>⟨by have h1:=hk.1;omega,by have h2:=hk.2;first|(rw[jS];exact h2)|(simp only[World.setCell,Array.size_modify];exact h2)⟩)
 clear hx4 Ei hs4 hy4 hb4 hd4 hB4 Vz VA VB VC
 obtain⟨hc2,hf2,hr2,hlt2⟩:=ai hx5
 have HX:=Lib.hid hx5
 clear hx5
 go_wp2_with fail
 have hx5:=HX.out
 clear HX hc hf hr hlt hc2 hf2 hr2 hlt2
 generalize V4.setCell ⟨w.heap.size,15,none⟩ (.slice s4.a d.bH.length s4.cap)=W5 at *
 refine(afq _ _ _ _ (he.history.later yQ)).mono ?_
 rintro e V5 ⟨s5,rfl,hb5,hd5⟩
 have Ej:=(hb5.block w.heap.size (by omega)).trans hx5
 obtain⟨hc,hf,hr,hlt⟩:=ai Ej
 have hx6:(V5.setCell ⟨w.heap.size,16,none⟩ (.slice s5.a d.history.length s5.cap)).heap[w.heap.size]?=some (.cells (ae {r with parts:=s0,aliases:=s1,keys:=s2,targets:=s3,bH:=s4,history:=s5} d) 32):=(cZ _ Ej).trans (by rfl)
 have Ip:Below w.heap.size w (V5.setCell ⟨w.heap.size,16,none⟩ (.slice s5.a d.history.length s5.cap)):=(ag yQ hb5).setCell (Nat.le_refl _) _
 have Ny:aJ (V5.setCell ⟨w.heap.size,16,none⟩ (.slice s5.a d.history.length s5.cap)) (w.heap.size+1) 0 17=true:=by rw[kW hne,gY hb5 _ _ _ (by omega)];exact VD
 have hs6:w.heap.size+1<(V5.setCell ⟨w.heap.size,16,none⟩ (.slice s5.a d.history.length s5.cap)).heap.size:=by have:=hb5.size;simp only[World.setCell,Array.size_modify];omega
 have afF:aZ (V5.setCell ⟨w.heap.size,16,none⟩ (.slice s5.a d.history.length s5.cap)) (fun k=>w.heap.size+1<k∧k<(V5.setCell ⟨w.heap.size,16,none⟩ (.slice s5.a d.history.length s5.cap)).heap.size) (fun x=>xF w.heap.size x s0 d.name):=VF.to (fun k hk=>by have h1:=hk.1;have h2:=hk.2;rw[Below.heap_setCell _ _ _ _ (by simp;omega)];exact hb5.block k h2) (fun k hk=>⟨hk.1,by have h2:=hk.2;have h3:=hb5.size;simp only[World.setCell,Array.size_modify];omega⟩)
 have afG:aZ (V5.setCell ⟨w.heap.size,16,none⟩ (.slice s5.a d.history.length s5.cap)) (fun k=>w.heap.size+1<k∧k<(V5.setCell ⟨w.heap.size,16,none⟩ (.slice s5.a d.history.length s5.cap)).heap.size) (fun x=>yP w.heap.size x s1.a d.aliases):=VG.to (fun k hk=>by have h1:=hk.1;have h2:=hk.2;rw[Below.heap_setCell _ _ _ _ (by simp;omega)];exact hb5.block k h2) (fun k hk=>⟨hk.1,by have h2:=hk.2;have h3:=hb5.size;simp only[World.setCell,Array.size_modify];omega⟩)
 have afH:aZ (V5.setCell ⟨w.heap.size,16,none⟩ (.slice s5.a d.history.length s5.cap)) (fun k=>w.heap.size+1<k∧k<(V5.setCell ⟨w.heap.size,16,none⟩ (.slice s5.a d.history.length s5.cap)).heap.size) (fun x=>nX w.heap.size x s2.a d.keys):=VH.to (fun k hk=>by have h1:=hk.1;have h2:=hk.2;rw[Below.heap_setCell _ _ _ _ (by simp;omega)];exact hb5.block k h2) (fun k hk=>⟨hk.1,by have h2:=hk.2;have h3:=hb5.size;simp only[World.setCell,Array.size_modify];omega⟩)
 have afI:aZ (V5.setCell ⟨w.heap.size,16,none⟩ (.slice s5.a d.history.length s5.cap)) (fun k=>w.heap.size+1<k∧k<(V5.setCell ⟨w.heap.size,16,none⟩ (.slice s5.a d.history.length s5.cap)).heap.size) (fun x=>eG x s3.a d.targets):=VI.to (fun k hk=>by have h1:=hk.1;have h2:=hk.2;rw[Below.heap_setCell _ _ _ _ (by simp;omega)];exact hb5.block k h2) (fun k hk=>⟨hk.1,by have h2:=hk.2;have h3:=hb5.size;simp only[World.setCell,Array.size_modify];omega⟩)
 have afJ:aZ (V5.setCell ⟨w.heap.size,16,none⟩ (.slice s5.a d.history.length s5.cap)) (fun k=>w.heap.size+1<k∧k<(V5.setCell ⟨w.heap.size,16,none⟩ (.slice s5.a d.history.length s5.cap)).heap.size) (fun x=>eG x s4.a d.bH):=VJ.to (fun k hk=>by have h1:=hk.1;have h2:=hk.2;rw[Below.heap_setCell _ _ _ _ (by simp;omega)];exact hb5.block k h2) (fun k hk=>⟨hk.1,by have h2:=hk.2;have h3:=hb5.size;simp only[World.setCell,Array.size_modify];omega⟩)
 have afK:aZ (V5.setCell ⟨w.heap.size,16,none⟩ (.slice s5.a d.history.length s5.cap)) (fun k=>w.heap.size+1<k∧k<(V5.setCell ⟨w.heap.size,16,none⟩ (.slice s5.a d.history.length s5.cap)).heap.size) (fun x=>lL x s5.a d.history):=hd5.to (fun k hk=>by have h1:=hk.1;first|exact jh (by omega)|exact Below.heap_setCell _ _ _ _ (by simp;omega)) (fun k hk=>⟨by have h1:=hk.1;omega,by have h2:=hk.2;first|(rw[jS];exact h2)|(simp only[World.setCell,Array.size_modify];exact h2)⟩)
 clear hx5 VD hs5 Ej hb5 hd5 yQ VF VG VH VI VJ
 obtain⟨hc2,hf2,hr2,hlt2⟩:=ai hx6
 have HX:=Lib.hid hx6
 clear hx6
 go_wp2_with fail
 have hrow:=iV (w:=V5.setCell ⟨w.heap.size,16,none⟩ (.slice s5.a d.history.length s5.cap)) (He {parts:=s0,aliases:=s1,keys:=s2,targets:=s3,bH:=s4,history:=s5} d) Ny
 have hKK:∀k,w.heap.size+1<k∧k<(V5.setCell ⟨w.heap.size,16,none⟩ (.slice s5.a d.history.length s5.cap)).heap.size→(putRow (V5.setCell ⟨w.heap.size,16,none⟩ (.slice s5.a d.history.length s5.cap)) (w.heap.size+1) 0 (ae {parts:=s0,aliases:=s1,keys:=s2,targets:=s3,bH:=s4,history:=s5} d)).heap[k]?=(V5.setCell ⟨w.heap.size,16,none⟩ (.slice s5.a d.history.length s5.cap)).heap[k]?:=fun k hk=>jh (by omega)
 refine bodyPost_ret (Vh (by rfl) Tryz.underlying32 rfl (by kernel_rfl) rfl hrow) rfl ⟨{parts:=s0,aliases:=s1,keys:=s2,targets:=s3,bH:=s4,history:=s5},rfl,Go.WW.Below.putRow Ip (by omega),?_⟩
 intro x hx
 have hX:=fun k (hk:w.heap.size+1<k∧k<(V5.setCell ⟨w.heap.size,16,none⟩ (.slice s5.a d.history.length s5.cap)).heap.size)=>(hx k ⟨by omega,by rw[jS];exact hk.2⟩).trans (hKK k hk)
 have e0:=afF _ hX
 have e1:=afG _ hX
 have e2:=afH _ hX
 exact⟨⟨e0.1,e1.1,e2.at_,afI _ hX,afJ _ hX,afK _ hX,he.aK,he.attrs⟩,e0.2,e1.2,e2⟩
theorem afM(r:aI)(d:Entry)(w:World)(he:bz w r d):Calls Tryz.prog 31 #[.agg (ae r d)] w (afr w d):=
 (Vr r d w he).mono fun _ _ ⟨r',h1,h2,h3⟩=>⟨r',h1,h2,fun x hx=>(h3 x hx).at_⟩
end Go.Proofs.YtaghcadlgbnbdaaGreatDoor
namespace Go.WW
open Go.RowKit
theorem Em{α:Type}{q:α→Bool}{l:List α}{most:Int}(h:decide (most<(l.length:Int))=true):(decide ((l.length:Int)≤most)&&l.all q)=false:=by
 rw[decide_eq_true_eq]at h
 rw[decide_eq_false (by omega)];rfl
theorem En{α:Type}{q:α→Bool}{l:List α}{most:Int}(h:decide (most<(l.length:Int))=false):(decide ((l.length:Int)≤most)&&l.all q)=l.all q:=by
 rw[decide_eq_false_iff_not]at h
 rw[decide_eq_true (p:=(l.length:Int)≤most) (by omega)];rfl
end Go.WW
namespace Go.Proofs.YtaghcadlgbnbdaaGreatDoor
open Go.RowKit Go.WW
structure Enters(f:FuncId):Prop where
 run:∀(args:Array Value) (w:World),(callFunc f args).run Tryz.prog w=.ok (.enter f args) w
theorem afN(a:Option Addr)(cap f:Nat)(most:Int)(w:World):Calls Tryz.prog 173 #[.slice a 0 cap,.int .i64 most,.func (.func f) #[] #[]] w fun e w'=>e=.returned (.bool (decide ((0:Int)≤most)))∧Below w.heap.size w w':=by
 go_enter Tryz.func173,Tryz.ntmps173
 cases hm:decide (most<(0:Int))
 ·have HN:=Lib.hid (show decide ((0:Int)≤most)=true by simp at hm ⊢;omega)
  go_wp2_with fail
  refine wp_loop_rounds 1 ?_
  rw[rounds_succ]
  go_wp2_with fail
  go_ret
  exact⟨by rw[HN.out];rfl,Below.refl _ _⟩
 ·have HN:=Lib.hid (show decide ((0:Int)≤most)=false by simp at hm ⊢;omega)
  go_wp2_with fail
  go_ret
  exact⟨by rw[HN.out];rfl,Below.refl _ _⟩
theorem afO(a:Option Addr)(cap f:Nat)(most:Int)(l:List aB)(q:aB→Bool)(w:World)(hcf:Enters f)(hl:eG w a l)
  (hf:∀(x:Later w) (s:Sl) (p:aB),p∈l→bg x.w s p→Calls Tryz.prog f #[.agg (ak s p)] x.w fun e w'=>e=.returned (.bool (q p))∧Below x.w.heap.size x.w w') :
  Calls Tryz.prog 173 #[.slice a l.length cap,.int .i64 most,.func (.func f) #[] #[]] w fun e w'=>e=.returned (.bool (decide ((l.length:Int)≤most)&&l.all q))∧Below w.heap.size w w':=by
 have hn:l.length≤4294967000:=hl.1
 rcases aO.addr hl with h0|⟨b,o,rfl,hb⟩
 ·obtain rfl:l=[]:=List.eq_nil_of_length_eq_zero h0
  have:=afN a cap f most w
  simpa using this
 have HF:=Lib.hid hf
 have Iq:=hcf.run
 clear hf hcf
 go_enter Tryz.func173,Tryz.ntmps173
 cases hm:decide (most<(l.length:Int))
 ·have HM:=Lib.hid (En (q:=q) hm)
  go_wp2_with fail
  go_loopw [15] (fun i wr=>Below w.heap.size w wr∧∃k:Nat,k≤l.length∧i=.int .i64 k∧Hid ((l.take k).all q=true)) (fun i _=>l.length-(intOf i).toNat)
  case atStart=>exact⟨Below.refl _ _,0,Nat.zero_le _,rfl,by simp[Hid]⟩
  case round=>
   obtain⟨hbr,k,hk,rfl,hall⟩:=hrel
   by_cases hlt:k<l.length
   ·obtain⟨t,hc,hp⟩:=hl.at k hlt
    obtain⟨hcc,aU,hrr⟩:=bf hbr
    go_wp2_with fail
    have hb1:=aC hbr (.cells (ak t l[k]) 25)
    have HB:=Lib.hid hb1
    clear hb1
    refine(HF.out ⟨_,HB.out⟩ t l[k] (List.getElem_mem hlt) (hp.later HB.out)).mono ?_
    rintro e w1 ⟨rfl,hb2⟩
    have hb3:=ag HB.out hb2
    clear hcc aU hrr
    cases hv:q l[k]
    ·have HN:=Lib.hid (qV l k hlt hv)
     go_wp2_with fail
     go_ret
     exact⟨by rw[HM.out,HN.out];rfl,hb3⟩
    ·have HN:=Lib.hid (kC l k hlt hall.out hv)
     go_wp2_with fail
     go_roundw
     case rel=>exact⟨hb3,k+1,by omega,by go_num,HN.out⟩
     case measure=>simp[intOf];omega
   ·have HN:=Lib.hid (qW l k (by omega) hall.out)
    go_wp2_with fail
    go_ret
    exact⟨by rw[HM.out,HN.out];rfl,hbr⟩
 ·have HM:=Lib.hid (Em (q:=q) hm)
  go_wp2_with fail
  go_ret
  exact⟨by rw[HM.out];rfl,Below.refl _ _⟩
theorem afP(a:Option Addr)(cap f:Nat)(most:Int)(B0:Nat)(w:World):Calls Tryz.prog 173 #[.slice a 0 cap,.int .i64 most,.func (.func f) #[] #[.pointer (some ⟨B0,0,none⟩)]] w fun e w'=>e=.returned (.bool (decide ((0:Int)≤most)))∧Below w.heap.size w w':=by
 go_enter Tryz.func173,Tryz.ntmps173
 cases hm:decide (most<(0:Int))
 ·have HN:=Lib.hid (show decide ((0:Int)≤most)=true by simp at hm ⊢;omega)
  go_wp2_with fail
  refine wp_loop_rounds 1 ?_
  rw[rounds_succ]
  go_wp2_with fail
  go_ret
  exact⟨by rw[HN.out];rfl,Below.refl _ _⟩
 ·have HN:=Lib.hid (show decide ((0:Int)≤most)=false by simp at hm ⊢;omega)
  go_wp2_with fail
  go_ret
  exact⟨by rw[HN.out];rfl,Below.refl _ _⟩
theorem afQ(a:Option Addr)(cap f:Nat)(most:Int)(l:List aB)(B0:Nat)(q:aB→Bool)(w:World)(hcf:Enters f)(hl:eG w a l)
  (hf:∀(x:Later w) (s:Sl) (p:aB),p∈l→bg x.w s p→Calls Tryz.prog f #[.agg (ak s p),.pointer (some ⟨B0,0,none⟩)] x.w fun e w'=>e=.returned (.bool (q p))∧Below x.w.heap.size x.w w') :
  Calls Tryz.prog 173 #[.slice a l.length cap,.int .i64 most,.func (.func f) #[] #[.pointer (some ⟨B0,0,none⟩)]] w fun e w'=>e=.returned (.bool (decide ((l.length:Int)≤most)&&l.all q))∧Below w.heap.size w w':=by
 have hn:l.length≤4294967000:=hl.1
 rcases aO.addr hl with h0|⟨b,o,rfl,hb⟩
 ·obtain rfl:l=[]:=List.eq_nil_of_length_eq_zero h0
  have:=afP a cap f most B0 w
  simpa using this
 have HF:=Lib.hid hf
 have Iq:=hcf.run
 clear hf hcf
 go_enter Tryz.func173,Tryz.ntmps173
 cases hm:decide (most<(l.length:Int))
 ·have HM:=Lib.hid (En (q:=q) hm)
  go_wp2_with fail
  go_loopw [15] (fun i wr=>Below w.heap.size w wr∧∃k:Nat,k≤l.length∧i=.int .i64 k∧Hid ((l.take k).all q=true)) (fun i _=>l.length-(intOf i).toNat)
  case atStart=>exact⟨Below.refl _ _,0,Nat.zero_le _,rfl,by simp[Hid]⟩
  case round=>
   obtain⟨hbr,k,hk,rfl,hall⟩:=hrel
   by_cases hlt:k<l.length
   ·obtain⟨t,hc,hp⟩:=hl.at k hlt
    obtain⟨hcc,aU,hrr⟩:=bf hbr
    go_wp2_with fail
    have hb1:=aC hbr (.cells (ak t l[k]) 25)
    have HB:=Lib.hid hb1
    clear hb1
    refine(HF.out ⟨_,HB.out⟩ t l[k] (List.getElem_mem hlt) (hp.later HB.out)).mono ?_
    rintro e w1 ⟨rfl,hb2⟩
    have hb3:=ag HB.out hb2
    clear hcc aU hrr
    cases hv:q l[k]
    ·have HN:=Lib.hid (qV l k hlt hv)
     go_wp2_with fail
     go_ret
     exact⟨by rw[HM.out,HN.out];rfl,hb3⟩
    ·have HN:=Lib.hid (kC l k hlt hall.out hv)
     go_wp2_with fail
     go_roundw
     case rel=>exact⟨hb3,k+1,by omega,by go_num,HN.out⟩
     case measure=>simp[intOf];omega
   ·have HN:=Lib.hid (qW l k (by omega) hall.out)
    go_wp2_with fail
    go_ret
    exact⟨by rw[HM.out,HN.out];rfl,hbr⟩
 ·have HM:=Lib.hid (Em (q:=q) hm)
  go_wp2_with fail
  go_ret
  exact⟨by rw[HM.out];rfl,Below.refl _ _⟩
theorem afR(a:Option Addr)(cap f:Nat)(most:Int)(B0:Nat)(w:World):Calls Tryz.prog 175 #[.slice a 0 cap,.int .i64 most,.func (.func f) #[] #[.pointer (some ⟨B0,0,none⟩)]] w fun e w'=>e=.returned (.bool (decide ((0:Int)≤most)))∧Below w.heap.size w w':=by
 go_enter Tryz.func175,Tryz.ntmps175
 cases hm:decide (most<(0:Int))
 ·have HN:=Lib.hid (show decide ((0:Int)≤most)=true by simp at hm ⊢;omega)
  go_wp2_with fail
  refine wp_loop_rounds 1 ?_
  rw[rounds_succ]
  go_wp2_with fail
  go_ret
  exact⟨by rw[HN.out];rfl,Below.refl _ _⟩
 ·have HN:=Lib.hid (show decide ((0:Int)≤most)=false by simp at hm ⊢;omega)
  go_wp2_with fail
  go_ret
  exact⟨by rw[HN.out];rfl,Below.refl _ _⟩
theorem afS(a:Option Addr)(cap f:Nat)(most:Int)(l:List aW)(B0:Nat)(q:aW→Bool)(w:World)(hcf:Enters f)(hl:jZ w a l)
  (hf:∀(x:Later w) (s:Sl) (p:aW),p∈l→jG x.w s p→Calls Tryz.prog f #[.agg (aV s p),.pointer (some ⟨B0,0,none⟩)] x.w fun e w'=>e=.returned (.bool (q p))∧Below x.w.heap.size x.w w') :
  Calls Tryz.prog 175 #[.slice a l.length cap,.int .i64 most,.func (.func f) #[] #[.pointer (some ⟨B0,0,none⟩)]] w fun e w'=>e=.returned (.bool (decide ((l.length:Int)≤most)&&l.all q))∧Below w.heap.size w w':=by
 have hn:l.length≤4294967000:=hl.1
 rcases aO.addr hl with h0|⟨b,o,rfl,hb⟩
 ·obtain rfl:l=[]:=List.eq_nil_of_length_eq_zero h0
  have:=afR a cap f most B0 w
  simpa using this
 have HF:=Lib.hid hf
 have Iq:=hcf.run
 clear hf hcf
 go_enter Tryz.func175,Tryz.ntmps175
 cases hm:decide (most<(l.length:Int))
 ·have HM:=Lib.hid (En (q:=q) hm)
  go_wp2_with fail
  go_loopw [15] (fun i wr=>Below w.heap.size w wr∧∃k:Nat,k≤l.length∧i=.int .i64 k∧Hid ((l.take k).all q=true)) (fun i _=>l.length-(intOf i).toNat)
  case atStart=>exact⟨Below.refl _ _,0,Nat.zero_le _,rfl,by simp[Hid]⟩
  case round=>
   obtain⟨hbr,k,hk,rfl,hall⟩:=hrel
   by_cases hlt:k<l.length
   ·obtain⟨t,hc,hp⟩:=hl.at k hlt
    obtain⟨hcc,aU,hrr⟩:=bf hbr
    go_wp2_with fail
    have hb1:=aC hbr (.cells (aV t l[k]) 61)
    have HB:=Lib.hid hb1
    clear hb1
    refine(HF.out ⟨_,HB.out⟩ t l[k] (List.getElem_mem hlt) (hp.later HB.out)).mono ?_
    rintro e w1 ⟨rfl,hb2⟩
    have hb3:=ag HB.out hb2
    clear hcc aU hrr
    cases hv:q l[k]
    ·have HN:=Lib.hid (qV l k hlt hv)
     go_wp2_with fail
     go_ret
     exact⟨by rw[HM.out,HN.out];rfl,hb3⟩
    ·have HN:=Lib.hid (kC l k hlt hall.out hv)
     go_wp2_with fail
     go_roundw
     case rel=>exact⟨hb3,k+1,by omega,by go_num,HN.out⟩
     case measure=>simp[intOf];omega
   ·have HN:=Lib.hid (qW l k (by omega) hall.out)
    go_wp2_with fail
    go_ret
    exact⟨by rw[HM.out,HN.out];rfl,hbr⟩
 ·have HM:=Lib.hid (Em (q:=q) hm)
  go_wp2_with fail
  go_ret
  exact⟨by rw[HM.out];rfl,Below.refl _ _⟩
theorem afT(a:Option Addr)(cap f:Nat)(most:Int)(B0:Nat)(B1:Nat)(w:World):Calls Tryz.prog 254 #[.slice a 0 cap,.int .i64 most,.func (.func f) #[] #[.pointer (some ⟨B0,0,none⟩),.pointer (some ⟨B1,0,none⟩)]] w fun e w'=>e=.returned (.bool (decide ((0:Int)≤most)))∧Below w.heap.size w w':=by
 go_enter Tryz.func254,Tryz.ntmps254
 cases hm:decide (most<(0:Int))
 ·have HN:=Lib.hid (show decide ((0:Int)≤most)=true by simp at hm ⊢;omega)
  go_wp2_with fail
  refine wp_loop_rounds 1 ?_
  rw[rounds_succ]
  go_wp2_with fail
  go_ret
  exact⟨by rw[HN.out];rfl,Below.refl _ _⟩
 ·have HN:=Lib.hid (show decide ((0:Int)≤most)=false by simp at hm ⊢;omega)
  go_wp2_with fail
  go_ret
  exact⟨by rw[HN.out];rfl,Below.refl _ _⟩
theorem afU(a:Option Addr)(cap f:Nat)(most:Int)(l:List Key)(B0:Nat)(B1:Nat)(q:Key→Bool)(w:World)(hcf:Enters f)(hl:jR w a l)
  (hf:∀(x:Later w) (s:Sl) (p:Key),p∈l→kV x.w s p→Calls Tryz.prog f #[.agg (bY s p),.pointer (some ⟨B0,0,none⟩),.pointer (some ⟨B1,0,none⟩)] x.w fun e w'=>e=.returned (.bool (q p))∧Below x.w.heap.size x.w w') :
  Calls Tryz.prog 254 #[.slice a l.length cap,.int .i64 most,.func (.func f) #[] #[.pointer (some ⟨B0,0,none⟩),.pointer (some ⟨B1,0,none⟩)]] w fun e w'=>e=.returned (.bool (decide ((l.length:Int)≤most)&&l.all q))∧Below w.heap.size w w':=by
 have hn:l.length≤4294967000:=hl.1
 rcases aO.addr hl with h0|⟨b,o,rfl,hb⟩
 ·obtain rfl:l=[]:=List.eq_nil_of_length_eq_zero h0
  have:=afT a cap f most B0 B1 w
  simpa using this
 have HF:=Lib.hid hf
 have Iq:=hcf.run
 clear hf hcf
 go_enter Tryz.func254,Tryz.ntmps254
 cases hm:decide (most<(l.length:Int))
 ·have HM:=Lib.hid (En (q:=q) hm)
  go_wp2_with fail
  go_loopw [15] (fun i wr=>Below w.heap.size w wr∧∃k:Nat,k≤l.length∧i=.int .i64 k∧Hid ((l.take k).all q=true)) (fun i _=>l.length-(intOf i).toNat)
  case atStart=>exact⟨Below.refl _ _,0,Nat.zero_le _,rfl,by simp[Hid]⟩
  case round=>
   obtain⟨hbr,k,hk,rfl,hall⟩:=hrel
   by_cases hlt:k<l.length
   ·obtain⟨t,hc,hp⟩:=hl.at k hlt
    obtain⟨hcc,aU,hrr⟩:=bf hbr
    go_wp2_with fail
    have hb1:=aC hbr (.cells (bY t l[k]) 64)
    have HB:=Lib.hid hb1
    clear hb1
    refine(HF.out ⟨_,HB.out⟩ t l[k] (List.getElem_mem hlt) (hp.later HB.out)).mono ?_
    rintro e w1 ⟨rfl,hb2⟩
    have hb3:=ag HB.out hb2
    clear hcc aU hrr
    cases hv:q l[k]
    ·have HN:=Lib.hid (qV l k hlt hv)
     go_wp2_with fail
     go_ret
     exact⟨by rw[HM.out,HN.out];rfl,hb3⟩
    ·have HN:=Lib.hid (kC l k hlt hall.out hv)
     go_wp2_with fail
     go_roundw
     case rel=>exact⟨hb3,k+1,by omega,by go_num,HN.out⟩
     case measure=>simp[intOf];omega
   ·have HN:=Lib.hid (qW l k (by omega) hall.out)
    go_wp2_with fail
    go_ret
    exact⟨by rw[HM.out,HN.out];rfl,hbr⟩
 ·have HM:=Lib.hid (Em (q:=q) hm)
  go_wp2_with fail
  go_ret
  exact⟨by rw[HM.out];rfl,Below.refl _ _⟩
theorem afV(a:Option Addr)(cap f:Nat)(most:Int)(w:World):Calls Tryz.prog 107 #[.slice a 0 cap,.int .i64 most,.func (.func f) #[] #[]] w fun e w'=>e=.returned (.bool (decide ((0:Int)≤most)))∧Below w.heap.size w w':=by
 go_enter Tryz.func107,Tryz.ntmps107
 cases hm:decide (most<(0:Int))
 ·have HN:=Lib.hid (show decide ((0:Int)≤most)=true by simp at hm ⊢;omega)
  go_wp2_with fail
  refine wp_loop_rounds 1 ?_
  rw[rounds_succ]
  go_wp2_with fail
  go_ret
  exact⟨by rw[HN.out];rfl,Below.refl _ _⟩
 ·have HN:=Lib.hid (show decide ((0:Int)≤most)=false by simp at hm ⊢;omega)
  go_wp2_with fail
  go_ret
  exact⟨by rw[HN.out];rfl,Below.refl _ _⟩
theorem afW(a:Option Addr)(cap f:Nat)(most:Int)(l:List (List UInt8))(q:(List UInt8)→Bool)(w:World)(hcf:Enters f)(hl:lL w a l)
  (hf:∀(x:Later w) (s:Sl) (p:(List UInt8)),p∈l→(fun w (s:Sl) p=>BytesAt w s.a p) x.w s p→Calls Tryz.prog f #[.slice s.a p.length s.cap] x.w fun e w'=>e=.returned (.bool (q p))∧Below x.w.heap.size x.w w') :
  Calls Tryz.prog 107 #[.slice a l.length cap,.int .i64 most,.func (.func f) #[] #[]] w fun e w'=>e=.returned (.bool (decide ((l.length:Int)≤most)&&l.all q))∧Below w.heap.size w w':=by
 have hn:l.length≤4294967000:=hl.1
 rcases dJ.addr hl with h0|⟨b,o,rfl,hb⟩
 ·obtain rfl:l=[]:=List.eq_nil_of_length_eq_zero h0
  have:=afV a cap f most w
  simpa using this
 have HF:=Lib.hid hf
 have Iq:=hcf.run
 clear hf hcf
 go_enter Tryz.func107,Tryz.ntmps107
 cases hm:decide (most<(l.length:Int))
 ·have HM:=Lib.hid (En (q:=q) hm)
  go_wp2_with fail
  go_loopw [15] (fun i wr=>Below w.heap.size w wr∧∃k:Nat,k≤l.length∧i=.int .i64 k∧Hid ((l.take k).all q=true)) (fun i _=>l.length-(intOf i).toNat)
  case atStart=>exact⟨Below.refl _ _,0,Nat.zero_le _,rfl,by simp[Hid]⟩
  case round=>
   obtain⟨hbr,k,hk,rfl,hall⟩:=hrel
   by_cases hlt:k<l.length
   ·obtain⟨t,hc,hp⟩:=hl.at k hlt
    obtain⟨hcc,aU,hrr⟩:=bf hbr
    go_wp2_with fail
    have hb1:=hbr
    have HB:=Lib.hid hb1
    clear hb1
    refine(HF.out ⟨_,HB.out⟩ t l[k] (List.getElem_mem hlt) (hp.later HB.out)).mono ?_
    rintro e w1 ⟨rfl,hb2⟩
    have hb3:=ag HB.out hb2
    clear hcc aU hrr
    cases hv:q l[k]
    ·have HN:=Lib.hid (qV l k hlt hv)
     go_wp2_with fail
     go_ret
     exact⟨by rw[HM.out,HN.out];rfl,hb3⟩
    ·have HN:=Lib.hid (kC l k hlt hall.out hv)
     go_wp2_with fail
     go_roundw
     case rel=>exact⟨hb3,k+1,by omega,by go_num,HN.out⟩
     case measure=>simp[intOf];omega
   ·have HN:=Lib.hid (qW l k (by omega) hall.out)
    go_wp2_with fail
    go_ret
    exact⟨by rw[HM.out,HN.out];rfl,hbr⟩
 ·have HM:=Lib.hid (Em (q:=q) hm)
  go_wp2_with fail
  go_ret
  exact⟨by rw[HM.out];rfl,Below.refl _ _⟩
end Go.Proofs.YtaghcadlgbnbdaaGreatDoor
namespace Go.WW
theorem VK{α:Type}{r:α→α→Bool}{l:List α}(j:Nat)(h:j+1<l.length)(hr:r l[j] l[j+1]=false):ordered r l=false:=by
 refine Eb _ (j+1) h ?_
 simp[iQ,h,show j<l.length by omega,hr]
theorem VL{α:Type}{r:α→α→Bool}{l:List α}(j:Nat)(h:j+1<l.length)(hall:(List.range (j+1)).all (iQ r l)=true)(hr:r l[j] l[j+1]=true):(List.range (j+1+1)).all (iQ r l)=true:=by
 refine Hz (j+1) hall ?_
 simp[iQ,h,show j<l.length by omega,hr]
theorem VM{α:Type}{r:α→α→Bool}{l:List α}(j:Nat)(h:¬j+1<l.length)(hall:(List.range (j+1)).all (iQ r l)=true):ordered r l=true:=by
 rw[ordered,List.all_eq_true]
 rw[List.all_eq_true]at hall
 intro i hi
 exact hall i (by simp at hi ⊢;omega)
theorem VO{α:Type}(r:α→α→Bool)(l:List α):(List.range (0+1)).all (iQ r l)=true:=by simp[iQ]
theorem afX{a b:aW}(h:decide (b.version<a.version)=false):jI a b=false:=by rw[jI,h];rfl
theorem afY{a b:aW}(h:decide (b.version<a.version)=true):jI a b=decide (b.created≤a.created):=by rw[jI,h];rfl
end Go.WW
namespace Go.Proofs.YtaghcadlgbnbdaaGreatDoor
open Go.RowKit Go.WW
theorem VP(s t:Sl)(a b:Key)(w:World):Calls Tryz.prog 256 #[.agg (bY s a),.agg (bY t b)] w fun e w'=>e=.returned (.bool (lN a b))∧Below w.heap.size w w':=by
 go_enter Tryz.func256,Tryz.ntmps256
 go_wp2_with fail
 go_ret
 exact⟨by rfl,((Below.refl _ _).alloc (Nat.le_refl _) _).alloc (by simp) _⟩
theorem VQ(s t:Sl)(a b:aW)(w:World):Calls Tryz.prog 179 #[.agg (aV s a),.agg (aV t b)] w fun e w'=>e=.returned (.bool (jI a b))∧Below w.heap.size w w':=by
 go_enter Tryz.func179,Tryz.ntmps179
 cases h:decide (b.version<a.version)
 ·have HN:=Lib.hid (afX h)
  go_wp2_with fail
  go_ret
  exact⟨by rw[HN.out];rfl,((Below.refl _ _).alloc (Nat.le_refl _) _).alloc (by simp) _⟩
 ·have HN:=Lib.hid (afY h)
  go_wp2_with fail
  go_ret
  exact⟨by rw[HN.out];rfl,((Below.refl _ _).alloc (Nat.le_refl _) _).alloc (by simp) _⟩
theorem afZ(a:Option Addr)(cap:Nat)(w:World):Calls Tryz.prog 255 #[.slice a 0 cap,.func (.func 256) #[] #[]] w fun e w'=>e=.returned (.bool true)∧Below w.heap.size w w':=by
 go_enter Tryz.func255,Tryz.ntmps255
 go_wp2_with fail
 refine wp_loop_rounds 1 ?_
 rw[rounds_succ]
 go_wp2_with fail
 go_ret
 exact⟨rfl,Below.refl _ _⟩
theorem af0(a:Option Addr)(cap:Nat)(l:List Key)(w:World)(hl:jR w a l) :
  Calls Tryz.prog 255 #[.slice a l.length cap,.func (.func 256) #[] #[]] w fun e w'=>e=.returned (.bool (ordered lN l))∧Below w.heap.size w w':=by
 have hn:l.length≤4294967000:=hl.1
 rcases aO.addr hl with h0|⟨b,o,rfl,hb⟩
 ·obtain rfl:l=[]:=List.eq_nil_of_length_eq_zero h0
  exact afZ a cap w
 go_enter Tryz.func255,Tryz.ntmps255
 go_wp2_with fail
 go_loopw [5] (fun i wr=>Below w.heap.size w wr∧∃j:Nat,j≤l.length∧i=.int .i64 ((j:Int)+1)∧Hid ((List.range (j+1)).all (iQ lN l)=true)) (fun i _=>l.length+1-(intOf i).toNat)
 case atStart=>exact⟨Below.refl _ _,0,Nat.zero_le _,rfl,VO _ _⟩
 case round=>
  obtain⟨hbr,j,hj,rfl,hall⟩:=hrel
  by_cases hlt:j+1<l.length
  ·obtain⟨s,hc,hp⟩:=hl.at j (by omega)
   obtain⟨t,hc',hp'⟩:=hl.at (j+1) hlt
   have hlt':((j:Int)+1<(l.length:Int)):=by omega
   have hjj:(j:Int)+1-1=(j:Int):=by omega
   have ht1:((j:Int)+1).toNat=j+1:=by omega
   have h00:(0:Int)≤(j:Int)+1:=by omega
   have hw1:IntKind.i64.wrap ((j:Int)+1-1)=(j:Int):=by rw[hjj];exact IntWalk.i64_in _ (by omega)
   have hjl:j<l.length:=by omega
   cases hv:lN l[j] l[j+1]
   ·have HN:=Lib.hid (VK j hlt hv)
    go_wp2_with fail
    refine dP hbr (by kernel_rfl) (by kernel_rfl) ?_
    repeat (go_big_quiet_step ((go_at_call 256;exact Calls.gX (VP _ _ _ _ _))))
    refine wpQuiet_nil ?_
    intro w2 hb2
    rw[hv]
    go_wp2_with fail
    go_ret
    exact⟨by rw[HN.out];rfl,hb2⟩
   ·have HN:=Lib.hid (VL j hlt hall.out hv)
    go_wp2_with fail
    refine dP hbr (by kernel_rfl) (by kernel_rfl) ?_
    repeat (go_big_quiet_step ((go_at_call 256;exact Calls.gX (VP _ _ _ _ _))))
    refine wpQuiet_nil ?_
    intro w2 hb2
    rw[hv]
    go_wp2_with fail
    clear hjj ht1 h00 hw1
    go_roundw
    case rel=>exact⟨hb2,j+1,by omega,by go_num,HN.out⟩
    case measure=>simp[intOf];omega
  ·have HN:=Lib.hid (VM j hlt hall.out)
   have hlt':¬((j:Int)+1<(l.length:Int)):=by omega
   go_wp2_with fail
   go_ret
   exact⟨by rw[HN.out];rfl,hbr⟩
theorem af1(a:Option Addr)(cap:Nat)(w:World):Calls Tryz.prog 178 #[.slice a 0 cap,.func (.func 179) #[] #[]] w fun e w'=>e=.returned (.bool true)∧Below w.heap.size w w':=by
 go_enter Tryz.func178,Tryz.ntmps178
 go_wp2_with fail
 refine wp_loop_rounds 1 ?_
 rw[rounds_succ]
 go_wp2_with fail
 go_ret
 exact⟨rfl,Below.refl _ _⟩
theorem af2(a:Option Addr)(cap:Nat)(l:List aW)(w:World)(hl:jZ w a l) :
  Calls Tryz.prog 178 #[.slice a l.length cap,.func (.func 179) #[] #[]] w fun e w'=>e=.returned (.bool (ordered jI l))∧Below w.heap.size w w':=by
 have hn:l.length≤4294967000:=hl.1
 rcases aO.addr hl with h0|⟨b,o,rfl,hb⟩
 ·obtain rfl:l=[]:=List.eq_nil_of_length_eq_zero h0
  exact af1 a cap w
 go_enter Tryz.func178,Tryz.ntmps178
 go_wp2_with fail
 go_loopw [5] (fun i wr=>Below w.heap.size w wr∧∃j:Nat,j≤l.length∧i=.int .i64 ((j:Int)+1)∧Hid ((List.range (j+1)).all (iQ jI l)=true)) (fun i _=>l.length+1-(intOf i).toNat)
 case atStart=>exact⟨Below.refl _ _,0,Nat.zero_le _,rfl,VO _ _⟩
 case round=>
  obtain⟨hbr,j,hj,rfl,hall⟩:=hrel
  by_cases hlt:j+1<l.length
  ·obtain⟨s,hc,hp⟩:=hl.at j (by omega)
   obtain⟨t,hc',hp'⟩:=hl.at (j+1) hlt
   have hlt':((j:Int)+1<(l.length:Int)):=by omega
   have hjj:(j:Int)+1-1=(j:Int):=by omega
   have ht1:((j:Int)+1).toNat=j+1:=by omega
   have h00:(0:Int)≤(j:Int)+1:=by omega
   have hw1:IntKind.i64.wrap ((j:Int)+1-1)=(j:Int):=by rw[hjj];exact IntWalk.i64_in _ (by omega)
   have hjl:j<l.length:=by omega
   cases hv:jI l[j] l[j+1]
   ·have HN:=Lib.hid (VK j hlt hv)
    go_wp2_with fail
    refine dP hbr (by kernel_rfl) (by kernel_rfl) ?_
    repeat (go_big_quiet_step ((go_at_call 179;exact Calls.gX (VQ _ _ _ _ _))))
    refine wpQuiet_nil ?_
    intro w2 hb2
    rw[hv]
    go_wp2_with fail
    go_ret
    exact⟨by rw[HN.out];rfl,hb2⟩
   ·have HN:=Lib.hid (VL j hlt hall.out hv)
    go_wp2_with fail
    refine dP hbr (by kernel_rfl) (by kernel_rfl) ?_
    repeat (go_big_quiet_step ((go_at_call 179;exact Calls.gX (VQ _ _ _ _ _))))
    refine wpQuiet_nil ?_
    intro w2 hb2
    rw[hv]
    go_wp2_with fail
    clear hjj ht1 h00 hw1
    go_roundw
    case rel=>exact⟨hb2,j+1,by omega,by go_num,HN.out⟩
    case measure=>simp[intOf];omega
  ·have HN:=Lib.hid (VM j hlt hall.out)
   have hlt':¬((j:Int)+1<(l.length:Int)):=by omega
   go_wp2_with fail
   go_ret
   exact⟨by rw[HN.out];rfl,hbr⟩
end Go.Proofs.YtaghcadlgbnbdaaGreatDoor
namespace Go.WW
open Go.RowKit
def Be(commaOk:Bool)(z:Value):Option (Nat×Value)→Value
 |some (_,v)=>if commaOk then .tuple #[v,.bool true]else v
 |none=>if commaOk then .tuple #[z,.bool false]else z
theorem Nz{P:Program}{w:World}{mty kt et:TypeId}{d:TypeDesc}{r clock:Nat}{es:Array MapEntry}{k z:Value}{found:Option (Nat×Value)}(commaOk:Bool)(hm:P.underlying mty=some (.map kt et))(hd:P.underlying kt=some d)(hk:MapKept.IsKey d k)
  (hf:Instr.findNow d k es.toList 0=some found) (hz:(zeroValue et).run P w=.ok z w) (hb:w.heap[r]?=some (.map es clock)) :
  (Instr.lookup mty (.map (some r)) k commaOk).run P w=.ok (Be commaOk z found) w:=by
 have hc:(Instr.checkKey es.isEmpty 10000 kt k).run P w=.ok () w:=MapKept.run_checkKey hd hk _ 9999
 cases found with
 |none=>simp[Instr.lookup,run_underlying hm,MapKept.run_getObj_map hb,hc,MapKept.run_findKey hd hf,Result.andThen,hz,Be]
 |some x=>obtain⟨i,v⟩:=x;simp[Instr.lookup,run_underlying hm,MapKept.run_getObj_map hb,hc,MapKept.run_findKey hd hf,Result.andThen,Be]
end Go.WW
namespace Go.Proofs.YtaghcadlgbnbdaaGreatDoor
open Go.RowKit Go.WW
def vG:Array Value:=#[.string ⟨#[97,101,115,49,50,56,45,99,116,115,45,104,109,97,99,45,115,104,97,50,53,54,45,49,50,56]⟩,.int .i64 16,.int .i64 16,.int .i64 16,.int .i64 16,.func (.func 347) #[] #[],.func (.func 348) #[] #[],.func (.func 349) #[] #[]]
def Bf:Array Value:=#[.string ⟨#[115,116,114,101,97,109,45,104,109,97,99,45,115,104,97,50,53,54,45,50,53,54]⟩,.int .i64 32,.int .i64 16,.int .i64 32,.int .i64 32,.func (.func 350) #[] #[],.func (.func 351) #[] #[],.func (.func 352) #[] #[]]
def yR:Array MapEntry:=#[{key:=.int .i64 1,val:=.agg vG,born:=0},{key:=.int .i64 2,val:=.agg Bf,born:=1}]
theorem af4(w:World):(mW 350 #[(0,.string ⟨#[97,101,115,49,50,56,45,99,116,115,45,104,109,97,99,45,115,104,97,50,53,54,45,49,50,56]⟩),(1,.agg #[.int .i64 16,.int .i64 16,.int .i64 16,.int .i64 16]),(2,.func (.func 347) #[] #[]),(3,.func (.func 348) #[] #[]),(4,.func (.func 349) #[] #[])]).run Tryz.prog w=.ok (.value (.agg vG)) w:=by kernel_rfl
theorem af5(w:World):(mW 350 #[(0,.string ⟨#[115,116,114,101,97,109,45,104,109,97,99,45,115,104,97,50,53,54,45,50,53,54]⟩),(1,.agg #[.int .i64 32,.int .i64 16,.int .i64 32,.int .i64 32]),(2,.func (.func 350) #[] #[]),(3,.func (.func 351) #[] #[]),(4,.func (.func 352) #[] #[])]).run Tryz.prog w=.ok (.value (.agg Bf)) w:=by kernel_rfl
theorem af6(ρ:Operand→Value)(dst:Option Tmp)(a b c d e:Nat×Operand)(ty:TypeId)(pos:String)(after:Array Edge)(guard:Option (Nat×Bool)):execOp ρ {dst,op:=.build 350 #[a,b,c,d,e],type:=ty,pos,after,guard}=mW 350 #[(a.1,ρ a.2),(b.1,ρ b.2),(c.1,ρ c.2),(d.1,ρ d.2),(e.1,ρ e.2)]:=by simp[execOp,mW]
attribute [go_sem] af4 af5
attribute [go_sem ↓] af6
theorem VR(w:World):Calls Tryz.prog 319 #[] w fun e w'=>e=.returned (.map (some w.heap.size))∧w'.heap[w.heap.size]?=some (.map yR 2)∧Below w.heap.size w w':=by
 have hm1:(w.alloc (.map #[] 0)).heap[w.heap.size]?=some (.map #[] 0):=World.alloc_heap_new w (.map #[] 0)
 have hi1:=Nk (P:=Tryz.prog) (.agg vG) Tryz.underlying351 Tryz.underlying3 (k:=.int .i64 1) rfl (by rfl) hm1
 have hm2:((w.alloc (.map #[] 0)).putObj w.heap.size (.map #[{key:=.int .i64 1,val:=.agg vG,born:=0}] 1)).heap[w.heap.size]?=some (.map #[{key:=.int .i64 1,val:=.agg vG,born:=0}] 1):=World.putObj_heap_same (by simp)
 have hi2:=Nk (P:=Tryz.prog) (.agg Bf) Tryz.underlying351 Tryz.underlying3 (k:=.int .i64 2) rfl (by rfl) hm2
 obtain⟨W3,hW3⟩:∃W,((w.alloc (.map #[] 0)).putObj w.heap.size (.map #[{key:=.int .i64 1,val:=.agg vG,born:=0}] 1)).putObj w.heap.size (.map #[{key:=.int .i64 1,val:=.agg vG,born:=0},{key:=.int .i64 2,val:=.agg Bf,born:=1}] 2)=W:=⟨_,rfl⟩
 have Ir:W3.heap[w.heap.size]?=some (.map yR 2):=by rw[←hW3];exact World.putObj_heap_same (by simp)
 simp only[List.push_toArray,List.nil_append,List.cons_append,Nat.zero_add,Nat.reduceAdd]at hi1 hi2
 rw[hW3]at hi2
 have hB3:Below w.heap.size w W3:=by
  rw[←hW3]
  exact((Below.refl _ _).alloc (Nat.le_refl _) _).grown (grownBy_putObj' _ _ _) (by simp) (fun k e=>by cases e;omega) |>.grown (grownBy_putObj' _ _ _) (by simp) (fun k e=>by cases e;omega)
 have hmm:=@run_makeMap Tryz.prog
 have HM:=Lib.hid Ir
 clear Ir hm1 hm2 hW3
 go_enter Tryz.func319,Tryz.ntmps319
 go_wp2_with fail
 go_ret
 exact⟨rfl,HM.out,hB3⟩
def NC:Array Value:=#[.string ⟨#[]⟩,.int .i64 0,.int .i64 0,.int .i64 0,.int .i64 0,.nilFunc,.nilFunc,.nilFunc]
def o7(n:Int):Bool:=n == 1 || n == 2
def kZ(n:Int):Array Value:=if n == 1 then vG else if n == 2 then Bf else NC
theorem af7(w:World):(zeroValue 350).run Tryz.prog w=.ok (.agg NC) w:=by kernel_rfl
def Iu(n:Int):Option (Nat×Value):=if n == 1 then some (0,.agg vG)else if n == 2 then some (1,.agg Bf)else none
theorem af8(n:Int):Instr.findNow (.int .i64) (.int .i64 n) yR.toList 0=some (Iu n):=by
 unfold Iu
 by_cases h1:n=1
 ·subst h1;rfl
 ·by_cases h2:n=2
  ·subst h2;rfl
  ·have e1:(n == 1)=false:=by simpa using h1
   have e2:(n == 2)=false:=by simpa using h2
   simp[Instr.findNow,Instr.sameNow,yR,e1,e2]
theorem af9(b:Bool)(n:Int):Be b (.agg NC) (Iu n)=if b then .tuple #[.agg (kZ n),.bool (o7 n)]else .agg (kZ n):=by
 unfold Iu kZ o7
 by_cases h1:n=1
 ·subst h1;rfl
 ·by_cases h2:n=2
  ·subst h2;rfl
  ·have e1:(n == 1)=false:=by simpa using h1
   have e2:(n == 2)=false:=by simpa using h2
   simp[e1,e2,Be]
theorem VS(b:Bool)(n:Int){w:World}{r:Nat}(hb:w.heap[r]?=some (.map yR 2)):(Instr.lookup 351 (.map (some r)) (.int .i64 n) b).run Tryz.prog w=.ok (if b then .tuple #[.agg (kZ n),.bool (o7 n)]else .agg (kZ n)) w:=by
 rw[←af9]
 exact Nz b Tryz.underlying351 Tryz.underlying3 rfl (af8 n) (af7 w) hb
def conf(n:Int):Int:=if n == 1 then 16 else if n == 2 then 16 else 0
theorem Iw(n:Int):∃a b c d:Value,kZ n=#[a,.int .i64 (dS n),.int .i64 (conf n),.int .i64 (dS n),.int .i64 (dS n),b,c,d]∧dD #[a,b,c,d]=true:=by
 unfold kZ dS conf
 by_cases h1:n=1
 ·subst h1;exact⟨_,_,_,_,rfl,by simp[dD,Value.oneCell']⟩
 ·by_cases h2:n=2
  ·subst h2;exact⟨_,_,_,_,rfl,by simp[dD,Value.oneCell']⟩
  ·have e1:(n == 1)=false:=by simpa using h1
   have e2:(n == 2)=false:=by simpa using h2
   rw[e1,e2];exact⟨_,_,_,_,rfl,by simp[dD,Value.oneCell']⟩
theorem aga(w:World)(n:Int):(Instr.field 350 (.agg (kZ n)) 1).run Tryz.prog w=.ok (.agg #[.int .i64 (dS n),.int .i64 (conf n),.int .i64 (dS n),.int .i64 (dS n)]) w:=by
 obtain⟨a,b,c,d,h,_⟩:=Iw n
 rw[h];kernel_rfl
theorem agb(w:World)(a b c d:Int):(Instr.field 346 (.agg #[.int .i64 a,.int .i64 b,.int .i64 c,.int .i64 d]) 0).run Tryz.prog w=.ok (.int .i64 a) w:=by kernel_rfl
theorem agc(n:Int)(w:World):Calls Tryz.prog 252 #[.int .i64 n] w fun e w'=>e=.returned (.int .i64 (dS n))∧Below w.heap.size w w':=by
 have hkf:=fun w=>aga w n
 have hlf:=fun w=>agb w (dS n) (conf n) (dS n) (dS n)
 go_enter Tryz.func252,Tryz.ntmps252
 go_wp2_with fail
 refine(VR _).mono ?_
 rintro e w1 ⟨rfl,hm,hb⟩
 have hlk:(Instr.lookup 351 (.map (some w.heap.size)) (.int .i64 n) false).run Tryz.prog w1=.ok (.agg (kZ n)) w1:=VS false n hm
 have HN:=Lib.hid hb
 clear hm hb
 go_wp2_with fail
 go_ret
 exact⟨rfl,HN.out⟩
theorem VT(n:Int):(kZ n).size=8:=by obtain⟨a,b,c,d,h,_⟩:=Iw n;rw[h];rfl
theorem agd(n:Int):dD (kZ n)=true:=by
 obtain⟨a,b,c,d,h,h1⟩:=Iw n
 rw[h]
 simp[dD,Value.oneCell']at h1 ⊢
 exact⟨h1.1,h1.2.1,h1.2.2.1,h1.2.2.2⟩
theorem ND(n:Int):(kZ n)[1]?=some (.int .i64 (dS n)):=by obtain⟨a,b,c,d,h,_⟩:=Iw n;rw[h];rfl
theorem age(n:Int)(h:1<(kZ n).size):(kZ n)[1]'h=.int .i64 (dS n):=by
 have:=ND n;rw[Array.getElem?_eq_getElem h]at this;exact Option.some.inj this
attribute [go_sem] VT agd ND age
theorem agf(w:World)(b o:Nat):(jq 350 (.pointer (some ⟨b,o,none⟩))).run Tryz.prog w=qM Tryz.prog 350 w b o (row? w b o 8):=uZ Tryz.underlying350 rfl (by kernel_rfl) w b o
theorem agh(ρ:Operand→Value)(dst:Option Tmp)(x:Operand)(ty:TypeId)(pos:String)(after:Array Edge)(guard:Option (Nat×Bool)):execOp ρ {dst,op:=.load 350 x,type:=ty,pos,after,guard}=jq 350 (ρ x):=rfl
attribute [go_sem] agf
attribute [go_sem ↓] agh
theorem agi(w:World)(b o:Nat)(cs:Array Value)(hn:cs.size=8)(h1:dD cs=true):(jQ 350 (.pointer (some ⟨b,o,none⟩)) (.agg cs)).run Tryz.prog w=tH Tryz.prog 350 w b o cs (aJ w b o 8):=wX (by kernel_rfl) w b o cs hn h1
theorem agj(ρ:Operand→Value)(dst:Option Tmp)(x y:Operand)(ty:TypeId)(pos:String)(after:Array Edge)(guard:Option (Nat×Bool)):execOp ρ {dst,op:=.store 350 x y,type:=ty,pos,after,guard}=jQ 350 (ρ x) (ρ y):=rfl
attribute [go_sem] agi
attribute [go_sem ↓] agj
theorem agk(w:World):Calls Tryz.prog 319 #[] w fun e w'=>∃r,e=.returned (.map (some r))∧w'.heap[r]?=some (.map yR 2)∧Below w.heap.size w w':=(VR w).mono fun _ _ ⟨h1,h2,h3⟩=>⟨_,h1,h2,h3⟩
theorem VU(n:Int){w:World}{r:Nat}(hb:w.heap[r]?=some (.map yR 2)):(Instr.lookup 351 (.map (some r)) (.int .i64 n) true).run Tryz.prog w=.ok (.tuple #[.agg (kZ n),.bool (o7 n)]) w:=VS true n hb
theorem below2(w:World)(a b:Obj):Below w.heap.size w ((w.alloc a).alloc b).drew:=(((Below.refl _ w).alloc (Nat.le_refl _) _).alloc (by simp) _).drew
theorem below3(w:World)(a b c:Obj):Below w.heap.size w (((w.alloc a).alloc b).alloc c).drew:=((((Below.refl _ w).alloc (Nat.le_refl _) _).alloc (by simp) _).alloc (by simp;omega) _).drew
theorem agl(c:Array Value)(h:c.size=8)(x:Value)(h1:c[1]?=some x):#[c[0]'(by omega),x,c[2]'(by omega),c[3]'(by omega),c[4]'(by omega),c[5]'(by omega),c[6]'(by omega),c[7]'(by omega)]=c:=by
 obtain⟨l⟩:=c
 match l,h with
 | [a0,a1,a2,a3,a4,a5,a6,a7],_=>simp at h1 ⊢;exact h1.symm
theorem agm(k:Key):o7 k.profile=false∨(o7 k.profile=true∧((k.bytes.length:Int) == dS k.profile)=false)∨(o7 k.profile=true∧((k.bytes.length:Int) == dS k.profile)=true∧decide (0≤k.version)=false)∨
  (o7 k.profile=true∧((k.bytes.length:Int) == dS k.profile)=true∧decide (0≤k.version)=true):=by
 cases o7 k.profile<;>cases ((k.bytes.length:Int) == dS k.profile)<;>cases decide (0≤k.version)<;>simp
theorem agn(k:Key):nV k=(o7 k.profile&&((k.bytes.length:Int) == dS k.profile)&&decide (0≤k.version)&&decide (k.version≤65535)):=by
 have:decide (0<dS k.profile)=o7 k.profile:=by
  unfold dS o7
  by_cases h1:k.profile=1
  ·rw[h1];rfl
  ·by_cases h2:k.profile=2
   ·rw[h2];rfl
   ·have e1:(k.profile == 1)=false:=by simpa using h1
    have e2:(k.profile == 2)=false:=by simpa using h2
    rw[e1,e2];rfl
 rw[nV,this,au,Bool.and_assoc,Bool.and_assoc,Bool.and_assoc]
theorem agp(s:Sl)(k:Key)(w:World):Calls Tryz.prog 320 #[.agg (bY s k)] w fun e w'=>e=.returned (.tuple #[.agg (kZ k.profile),.bool (nV k)])∧Below w.heap.size w w':=by
 rw[agn]
 go_enter Tryz.func320,Tryz.ntmps320
 go_wp2_with fail
 have hne:w.heap.size≠w.heap.size+1+1:=by omega
 have hne1:w.heap.size+1≠w.heap.size+1+1:=by omega
 go_region_with (go_at_call 319;refine(agk _).mono ?_;rintro e w1 ⟨r,rfl,hm,hb⟩;have hsz:w.heap.size+1<w1.heap.size:=(by have:=hb.size;simp at this;omega);have hsz0:w.heap.size<w1.heap.size:=Nat.lt_of_succ_lt hsz;have hsz1:r<w1.heap.size:=(Array.getElem?_eq_some_iff.1 hm).1;obtain⟨hcc,aU,hrr⟩:=bf hb;have hB:Below w.heap.size w w1:=(by first|exact ag (below2 w _ _) hb|exact ag (below3 w _ _ _) hb);have hpp:=gY hb;have hlk:=VU k.profile hm;have aqP:=fun o=>VU (w:=w1.alloc o) k.profile ((Below.heap_alloc w1 o _ (Array.getElem?_eq_some_iff.1 hm).1).trans hm))
 all_goals rcases agm k with c1|⟨c1,c2⟩|⟨c1,c2,c3⟩|⟨c1,c2,c3⟩
 all_goals go_wp2_with fail
 all_goals refine bodyPost_ret (v:=.tuple #[.agg (kZ k.profile),.bool (o7 k.profile&&((k.bytes.length:Int) == dS k.profile)&&decide (0≤k.version)&&decide (k.version≤65535))]) (by simp[results,Tryz.results320,go_sem, *];exact agl _ (VT _) _ (ND _)) rfl ⟨rfl,?_⟩
 all_goals first
  |exact Go.WW.Below.putRow (hB.alloc hB.size _) (by omega)
  |exact Go.WW.Below.putRow (Go.WW.Below.putRow hB (by omega)) (by omega)
end Go.Proofs.YtaghcadlgbnbdaaGreatDoor
namespace Go.WW
theorem agq{m v:Int}{k:Key}(h:(k.version != v)=true):iC m v k=false:=by rw[iC,h];simp
theorem ags{m v:Int}{k:Key}(h:(dS k.profile == 0)=true):iC m v k=false:=by rw[iC,h];simp
theorem agt{m v:Int}{k:Key}(h:(k.version != v)=false)(h2:(dS k.profile == 0)=false)(h3:(m == 0)=true):iC m v k=nV k:=by rw[iC,h,h2,h3];simp
theorem agu{m v:Int}{k:Key}(h:(k.version != v)=false)(h2:(dS k.profile == 0)=false)(h3:(m == 0)=false):iC m v k=au k.bytes.length 1 256:=by rw[iC,h,h2,h3];simp
theorem agv{m:Int}{x:aW}(h:au x.version 1 65535=false):gV m x=false:=by rw[gV,iI,h];simp
theorem agw{m:Int}{x:aW}(h:decide (1≤(x.keys.length:Int))=false):gV m x=false:=by
 have e:au x.keys.length 1 4=false:=by rw[au,h];rfl
 rw[gV,iI,e];simp
theorem agx{m:Int}{x:aW}(h:(decide ((x.keys.length:Int)≤4)&&x.keys.all (iC m x.version))=false):gV m x=false:=by
 rw[Bool.and_eq_false_iff]at h
 rcases h with h|h
 ·rw[gV,iI,show au x.keys.length 1 4=false by rw[au,h];simp];simp
 ·rw[gV,h];simp
theorem agy{m:Int}{x:aW}(h:ordered lN x.keys=false):gV m x=false:=by rw[gV,h];simp
theorem agz{m:Int}{x:aW}(h2:decide (1≤(x.keys.length:Int))=true)(h3:(decide ((x.keys.length:Int)≤4)&&x.keys.all (iC m x.version))=true)(h4:ordered lN x.keys=true):gV m x=iI x∧au x.keys.length 1 4=true:=by
 rw[Bool.and_eq_true]at h3
 exact⟨by rw[gV,h3.2,h4];rfl,by rw[au,h2,h3.1];rfl⟩
end Go.WW
namespace Go.Proofs.YtaghcadlgbnbdaaGreatDoor
open Go.RowKit Go.WW
theorem agA(s:Sl)(k:Key)(w:World):Calls Tryz.prog 253 #[.agg (bY s k)] w fun e w'=>e=.returned (.bool (nV k))∧Below w.heap.size w w':=by
 go_enter Tryz.func253,Tryz.ntmps253
 go_wp2_with fail
 refine(agp _ _ _).mono ?_
 rintro e w1 ⟨rfl,hb⟩
 have hB:Below w.heap.size w w1:=ag ((Below.refl _ w).alloc (Nat.le_refl _) _) hb
 go_wp2_with fail
 go_ret
 exact⟨rfl,hB.alloc hB.size _⟩
theorem agB(s:Sl)(k:Key)(B0 B1:Nat)(m v:Int)(w:World)(hl:k.bytes.length≤lim)(h0:w.cell? ⟨B0,0,none⟩=some (.int .i64 v))(h1:w.cell? ⟨B1,0,none⟩=some (.int .i64 m)) :
  Calls Tryz.prog 251 #[.agg (bY s k),.pointer (some ⟨B0,0,none⟩),.pointer (some ⟨B1,0,none⟩)] w fun e w'=>e=.returned (.bool (iC m v k))∧Below w.heap.size w w':=by
 have hb0:B0<w.heap.size:=World.block_lt_of_cell? w _ h0
 have hb1:B1<w.heap.size:=World.block_lt_of_cell? w _ h1
 have hl':k.bytes.length≤4294967000:=hl
 have hB:Below w.heap.size w (w.alloc (.cells (bY s k) 64)):=(Below.refl _ w).alloc (Nat.le_refl _) _
 go_enter Tryz.func251,Tryz.ntmps251
 cases c1:(k.version != v)
 ·go_wp2_with fail
  refine(agc _ _).mono ?_
  rintro e w1 ⟨rfl,hb⟩
  have hB1:=ag hB hb
  obtain⟨hcc,aU,hrr⟩:=bf hb
  have hsz:w.heap.size<w1.heap.size:=by have:=hb.size;simp at this;omega
  cases c2:(dS k.profile == 0)
  ·cases c3:(m == 0)
   ·have HN:=Lib.hid (agu c1 c2 c3)
    go_wp2_with (go_at_call 102;refine(xq _ _ _ _).mono ?_;rintro e w' ⟨rfl,rfl⟩)
    go_ret
    exact⟨by rw[HN.out];rfl,hB1⟩
   ·have HN:=Lib.hid (agt c1 c2 c3)
    go_wp2_with fail
    refine(agA _ _ _).mono ?_
    rintro e w2 ⟨rfl,hb2⟩
    go_wp2_with fail
    go_ret
    exact⟨by rw[HN.out];rfl,ag hB1 hb2⟩
  ·have HN:=Lib.hid (ags (m:=m) (v:=v) c2)
   go_wp2_with fail
   go_ret
   exact⟨by rw[HN.out];rfl,hB1⟩
 ·have HN:=Lib.hid (agq (m:=m) c1)
  go_wp2_with fail
  go_ret
  exact⟨by rw[HN.out];rfl,hB⟩
theorem agC:Enters 251:=⟨fun args w=>by kernel_rfl⟩
structure um(W wr:World)(sb:Sl)(l:List UInt8):Prop where
 b:Below W.heap.size W wr
 own:Go.WW.Own wr W.heap.size 5 1 sb (vC l)
theorem um.app{W wr w':World}{sb s':Sl}{l:List UInt8}{c:UInt8}{o:Obj}(h:um W wr sb l)(hown:Go.WW.Own w' W.heap.size 5 1 s' (vC l++[#[.int .u8 c.toNat]]))(hg:(wr.alloc o).grownBy w' sb.blk):um W w' s' (l++[c]):=
 ⟨(h.b.alloc h.b.size _).grown hg (by have:=h.b.size;simp;omega) (fun k e=>(h.own.base e).1),by rw[←aff];exact hown⟩
theorem um.up{W wr:World}{sb:Sl}{l:List UInt8}(h:um W wr sb l)(o:Obj):Go.WW.Own (wr.alloc o) W.heap.size 5 1 sb (vC l):=h.own.kept fun g hg=>Below.heap_alloc wr o g (h.own.base hg).2
theorem um.sz{W wr:World}{sb:Sl}{l:List UInt8}(h:um W wr sb l)(o:Obj):W.heap.size≤(wr.alloc o).heap.size:=by have:=h.b.size;simp;omega
theorem agD{p:aB}(h:bD p=true):0<(ig p.parts).length:=by
 have hne:=xB h
 simp only[bD,Bool.and_eq_true,List.all_eq_true]at h
 cases hl:p.parts with
 |nil=>exact absurd hl hne
 |cons q l=>
  have:=h.1.1.1 q (by rw[hl];simp)
  simp only[ji,sized,Bool.and_eq_true,decide_eq_true_eq]at this
  have h1:0<q.data.toList.length:=by
    have h2:q.data.toList.length=q.size:=by simp
    omega
  cases hd:q.data.toList with
  |nil=>rw[hd]at h1;simp at h1
  |cons c d=>
   rw[ig,hd,A8,List.length_append,List.length_append]
   have:0<(kF c).length:=by unfold kF;split<;>simp
   omega
theorem agE{p:aB}{L:List UInt8}(h:L=ig p.parts):textOf p=(ByteArray.mk L.toArray++ByteArray.mk #[64])++p.aG:=by
 obtain⟨pp,⟨⟨r⟩⟩⟩:=p
 subst h
 have e1:=ByteArray.mk_append_mk (ig pp) [64]
 have e2:=ByteArray.mk_append_mk (ig pp++[64]) r
 rw[show(ByteArray.mk #[64])=ByteArray.mk ([64]:List UInt8).toArray from rfl,e1]
 show _=ByteArray.mk (ig pp++[64]).toArray++ByteArray.mk r.toArray
 rw[e2]
 simp[textOf,rC]
theorem VW(l:List ByteArray)(k:Nat)(h:k<l.length):ig (l.take (k+1))=(if k=0 then []else ig (l.take k)++[47])++esc l[k].data.toList:=by
 rw[List.take_succ_eq_append_getElem h,ae8]
 have e:(l.take k).length=k:=by simp;omega
 rw[e]
theorem VX(s:Sl)(p:aB)(w:World)(hp:bg w s p)(hok:bD p=true):Calls Tryz.prog 111 #[.agg (ak s p)] w fun e w'=>e=.returned (.tuple #[.string (textOf p),.int .i64 0])∧Below w.heap.size w w':=by
 obtain⟨hlen,VY,hrl⟩:=afh hok
 have hp0:0<p.parts.length:=List.length_pos_iff.2 (xB hok)
 have hB0:Below w.heap.size w (w.alloc (.cells (ak s p) 25)):=(Below.refl _ w).alloc (Nat.le_refl _) _
 obtain⟨sa,scap⟩:=s
 obtain⟨b,o,ha,-,-⟩:=hp.1.get 0 hp0
 dsimp only at ha
 subst ha
 have hpL:=hp.later hB0
 go_enter Tryz.func111,Tryz.ntmps111
 go_wp2_with fail
 refine(Ed _ _ _ hpL).mono ?_
 rintro e w1 ⟨rfl,hb1⟩
 rw[hok]
 obtain⟨hcc,aU,hrr⟩:=bf hb1
 have hsz:w.heap.size<w1.heap.size:=by have:=hb1.size;simp at this;omega
 go_wp2_with fail
 clear hcc aU hrr hsz
 have HS:=Lib.hid VY
 clear VY
 have hc1:(w.alloc (.cells (ak ⟨some ⟨b,o,none⟩,scap⟩ p) 25)).cell? ⟨w.heap.size,1,none⟩=some (.string p.aG):=by simp[go_sem]
 have hW:w.heap.size<(w.alloc (.cells (ak ⟨some ⟨b,o,none⟩,scap⟩ p) 25)).heap.size:=by simp
 generalize w.alloc (.cells (ak ⟨some ⟨b,o,none⟩,scap⟩ p) 25)=W0 at *
 go_loopw [4,14] (fun bv i wr=>∃(k:Nat) (sb:Sl),k≤p.parts.length∧i=.int .i64 k∧bv=.slice sb.a (ig (p.parts.take k)).length sb.cap∧um W0 wr sb (ig (p.parts.take k))) (fun _ i _=>p.parts.length-(intOf i).toNat)
 case atStart=>exact⟨0,⟨none,0⟩,Nat.zero_le _,rfl,rfl,hb1,Go.WW.Own.nil _ _ _ _⟩
 case round=>
  obtain⟨k,sb,hk,rfl,rfl,hR⟩:=hrel
  by_cases hlt:k<p.parts.length
  ·obtain⟨hcc,hss⟩:=(hpL.later hR.b).1.at k hlt
   have hbb:b<wr.heap.size:=World.block_lt_of_cell? wr _ hcc
   have hps:p.parts[k].size≤32:=HS.out _ (List.getElem_mem hlt)
   have hlt4:(ig (p.parts.take k)).length≤260:=by
    have h1:=U9 (l:=p.parts.take k) (fun x hx=>HS.out x (List.mem_of_mem_take hx))
    have h2:(p.parts.take k).length≤k:=List.length_take_le _ _
    omega
   by_cases hk0:k=0
   ·obtain⟨L1,hL1⟩:∃L:List UInt8,L=[]:=⟨_,rfl⟩
    have agF:L1.length≤261:=by rw[hL1];simp
    have HL:=Lib.hid (show L1++esc p.parts[k].data.toList=ig (p.parts.take (k+1)) by rw[VW _ _ hlt,if_pos hk0,hL1])
    have HK:=Lib.hid (show ig (p.parts.take k)=L1++esc (p.parts[k].data.toList.take 0) by subst hk0;subst hL1;simp[ig,esc])
    have hk1:decide (0<k)=false:=by simp[hk0]
    have hk2:¬(0:Int)<(k:Int):=by omega
    clear hL1 hk0
    go_wp2_with fail
    go_loopw [4,26] (fun bv i wr=>∃(j:Nat) (sb:Sl),j≤p.parts[k].size∧i=.int .i64 j∧bv=.slice sb.a (L1++esc (p.parts[k].data.toList.take j)).length sb.cap∧um W0 wr sb (L1++esc (p.parts[k].data.toList.take j))) (fun _ i _=>p.parts[k].size-(intOf i).toNat)
    case atStart=>exact⟨0,sb,Nat.zero_le _,rfl,by rw[HK.out],by rw[←HK.out];exact hR⟩
    case round=>
     clear hR
     obtain⟨j,sc,hj,rfl,hbv,hI⟩:=hrel
     obtain⟨Lj,yS⟩:∃L,L=L1++esc (p.parts[k].data.toList.take j):=⟨_,rfl⟩
     rw[←yS]at hbv hI
     subst hbv
     have HJ:=Lib.hid yS
     clear yS
     by_cases hjt:j<p.parts[k].size
     ·have iK:=Ik (p.parts[k].data.toList.take j)
      have hel:(p.parts[k].data.toList.take j).length≤j:=List.length_take_le _ _
      have hLL:Lj.length≤1000:=by rw[HJ.out,List.length_append];omega
      have HT:=Lib.hid (take_snoc' p.parts[k] j hjt)
      cases hsp:o5 p.parts[k][j]
      ·have HN:=Lib.hid (show kF p.parts[k][j]=[p.parts[k][j]] by rw[kF,hsp];rfl)
       go_wp2_with (first|(go_at_call 181;refine(Il _ _).mono ?_;rintro e w' ⟨rfl,rfl⟩;rw[hsp])|(at_builtin;refine gK rfl (.tmp 36) (.tmp 40) _ rfl uj rfl (lQ _).symm (hI.up _) rfl rfl (bJ.new _ #[.int .u8 p.parts[k][j].toNat] _ _ rfl (by simp[dD,Value.oneCell'])) (by rw[lQ];simp;omega) (hI.sz _) ?_;intro s2 w2 hown hg hat;have hR2:=hI.app (c:=p.parts[k][j]) hown hg;clear hown hg hat))
       go_roundw
       case rel=>exact⟨j+1,s2,by omega,by go_num,by rw[HT.out,xA,HN.out,←List.append_assoc,←HJ.out];simp,by rw[HT.out,xA,HN.out,←List.append_assoc,←HJ.out];exact hR2⟩
       case measure=>simp[intOf];omega
      ·have HN:=Lib.hid (show kF p.parts[k][j]=[92,p.parts[k][j]] by rw[kF,hsp];rfl)
       go_wp2_with (first|(go_at_call 181;refine(Il _ _).mono ?_;rintro e w' ⟨rfl,rfl⟩;rw[hsp])|(at_builtin;refine gK rfl (.tmp 33) (.tmp 34) _ rfl uj rfl (lQ _).symm (hI.up _) rfl rfl (bJ.new _ #[.int .u8 92] _ _ rfl (by simp[dD,Value.oneCell'])) (by rw[lQ];simp;omega) (hI.sz _) ?_;intro s2 w2 hown hg hat;have hR2:=hI.app (c:=92) hown hg;clear hown hg hat)|(at_builtin;refine gK rfl (.tmp 36) (.tmp 40) _ rfl uj rfl (by rw[lQ];simp) (hR2.up _) rfl rfl (bJ.new _ #[.int .u8 p.parts[k][j].toNat] _ _ rfl (by simp[dD,Value.oneCell'])) (by rw[lQ];simp;omega) (hR2.sz _) ?_;intro s3 w3 hown hg hat;have jU:=hR2.app (c:=p.parts[k][j]) hown hg;clear hown hg hat))
       go_roundw
       case rel=>exact⟨j+1,s3,by omega,by go_num,by rw[HT.out,xA,HN.out,←List.append_assoc,←HJ.out];simp,by rw[HT.out,xA,HN.out,←List.append_assoc,←HJ.out];simpa using jU⟩
       case measure=>simp[intOf];omega
     ·have HE:=Lib.hid (show Lj=ig (p.parts.take (k+1)) by
       rw[HJ.out,List.take_of_length_le (by simp;omega)];exact HL.out)
      go_wp2_with fail
      go_roundw
      case rel=>exact⟨k+1,sc,by omega,by go_num,by rw[HE.out],by rw[←HE.out];exact hI⟩
      case measure=>simp[intOf];omega
   ·obtain⟨L1,hL1⟩:∃L:List UInt8,L=ig (p.parts.take k)++[47]:=⟨_,rfl⟩
    have agF:L1.length≤261:=by rw[hL1,List.length_append];simp;omega
    have HL:=Lib.hid (show L1++esc p.parts[k].data.toList=ig (p.parts.take (k+1)) by rw[VW _ _ hlt,if_neg hk0,hL1])
    have hk1:decide (0<k)=true:=by simp;omega
    have hk2:(0:Int)<(k:Int):=by omega
    have HK:=Lib.hid hL1
    clear hL1
    go_wp2_with (at_builtin;refine gK rfl (.tmp 21) (.tmp 22) _ rfl uj rfl (lQ _).symm (hR.up _) rfl rfl (bJ.new _ #[.int .u8 47] _ _ rfl (by simp[dD,Value.oneCell'])) (by rw[lQ];simp;omega) (hR.sz _) ?_;intro s1 w1' hown hg hat;have hR1:=hR.app (c:=47) hown hg;clear hown hg hat)
    go_loopw [4,26] (fun bv i wr=>∃(j:Nat) (sb:Sl),j≤p.parts[k].size∧i=.int .i64 j∧bv=.slice sb.a (L1++esc (p.parts[k].data.toList.take j)).length sb.cap∧um W0 wr sb (L1++esc (p.parts[k].data.toList.take j))) (fun _ i _=>p.parts[k].size-(intOf i).toNat)
    case atStart=>exact⟨0,s1,Nat.zero_le _,rfl,by rw[HK.out];simp[esc],by simp only[List.take_zero,Nl,List.append_nil];rw[HK.out];exact hR1⟩
    case round=>
     clear hR
     obtain⟨j,sc,hj,rfl,hbv,hI⟩:=hrel
     obtain⟨Lj,yS⟩:∃L,L=L1++esc (p.parts[k].data.toList.take j):=⟨_,rfl⟩
     rw[←yS]at hbv hI
     subst hbv
     have HJ:=Lib.hid yS
     clear yS
     by_cases hjt:j<p.parts[k].size
     ·have iK:=Ik (p.parts[k].data.toList.take j)
      have hel:(p.parts[k].data.toList.take j).length≤j:=List.length_take_le _ _
      have hLL:Lj.length≤1000:=by rw[HJ.out,List.length_append];omega
      have HT:=Lib.hid (take_snoc' p.parts[k] j hjt)
      cases hsp:o5 p.parts[k][j]
      ·have HN:=Lib.hid (show kF p.parts[k][j]=[p.parts[k][j]] by rw[kF,hsp];rfl)
       go_wp2_with (first|(go_at_call 181;refine(Il _ _).mono ?_;rintro e w' ⟨rfl,rfl⟩;rw[hsp])|(at_builtin;refine gK rfl (.tmp 36) (.tmp 40) _ rfl uj rfl (lQ _).symm (hI.up _) rfl rfl (bJ.new _ #[.int .u8 p.parts[k][j].toNat] _ _ rfl (by simp[dD,Value.oneCell'])) (by rw[lQ];simp;omega) (hI.sz _) ?_;intro s2 w2 hown hg hat;have hR2:=hI.app (c:=p.parts[k][j]) hown hg;clear hown hg hat))
       go_roundw
       case rel=>exact⟨j+1,s2,by omega,by go_num,by rw[HT.out,xA,HN.out,←List.append_assoc,←HJ.out];simp,by rw[HT.out,xA,HN.out,←List.append_assoc,←HJ.out];exact hR2⟩
       case measure=>simp[intOf];omega
      ·have HN:=Lib.hid (show kF p.parts[k][j]=[92,p.parts[k][j]] by rw[kF,hsp];rfl)
       go_wp2_with (first|(go_at_call 181;refine(Il _ _).mono ?_;rintro e w' ⟨rfl,rfl⟩;rw[hsp])|(at_builtin;refine gK rfl (.tmp 33) (.tmp 34) _ rfl uj rfl (lQ _).symm (hI.up _) rfl rfl (bJ.new _ #[.int .u8 92] _ _ rfl (by simp[dD,Value.oneCell'])) (by rw[lQ];simp;omega) (hI.sz _) ?_;intro s2 w2 hown hg hat;have hR2:=hI.app (c:=92) hown hg;clear hown hg hat)|(at_builtin;refine gK rfl (.tmp 36) (.tmp 40) _ rfl uj rfl (by rw[lQ];simp) (hR2.up _) rfl rfl (bJ.new _ #[.int .u8 p.parts[k][j].toNat] _ _ rfl (by simp[dD,Value.oneCell'])) (by rw[lQ];simp;omega) (hR2.sz _) ?_;intro s3 w3 hown hg hat;have jU:=hR2.app (c:=p.parts[k][j]) hown hg;clear hown hg hat))
       go_roundw
       case rel=>exact⟨j+1,s3,by omega,by go_num,by rw[HT.out,xA,HN.out,←List.append_assoc,←HJ.out];simp,by rw[HT.out,xA,HN.out,←List.append_assoc,←HJ.out];simpa using jU⟩
       case measure=>simp[intOf];omega
     ·have HE:=Lib.hid (show Lj=ig (p.parts.take (k+1)) by
       rw[HJ.out,List.take_of_length_le (by simp;omega)];exact HL.out)
      go_wp2_with fail
      go_roundw
      case rel=>exact⟨k+1,sc,by omega,by go_num,by rw[HE.out],by rw[←HE.out];exact hI⟩
      case measure=>simp[intOf];omega
  ·have hE:p.parts.take k=p.parts:=List.take_of_length_le (by omega)
   rw[hE]at hR ⊢
   clear hE
   have hT:=U9 (l:=p.parts) (fun x hx=>HS.out x hx)
   have hpos:=agD hok
   obtain⟨L,hL⟩:∃L,L=ig p.parts:=⟨_,rfl⟩
   rw[←hL]at hR hT hpos ⊢
   have HX:=Lib.hid (agE hL)
   clear hL
   obtain⟨g,hga,-,-⟩:=hR.own.row 0 (by rw[lQ];exact hpos)
   obtain⟨sba,sbc⟩:=sb
   dsimp only at hga
   subst hga
   have hcv:=TK (P:=Tryz.prog) wr 62 9 5 Tryz.underlying62 Tryz.underlying5 Tryz.underlying9 g 0 sbc L (fun i hi=>by
    obtain⟨g',hg',-,hrow⟩:=hR.own.row i (by rw[lQ];exact hi)
    cases hg'
    have hcell:=gp hrow 0 (by omega)
    simpa[vC]using hcell)
   have hrc:wr.cell? ⟨w.heap.size,1,none⟩=some (.string p.aG):=(hR.b.cell (p:=⟨w.heap.size,1,none⟩) hW).trans hc1
   have aqR:L.length≤260:=by omega
   have HB:=Lib.hid (hB0.trans (hR.b.mono hB0.size))
   have hw9:w.heap.size<wr.heap.size:=World.block_lt_of_cell? wr _ hrc
   clear hR hT hpos hW hc1
   go_wp2_with fail
   go_ret2
   exact⟨by rw[HX.out];rfl,HB.out⟩
end Go.Proofs.YtaghcadlgbnbdaaGreatDoor
namespace Go.WW
open Go.RowKit
theorem agI(s:ByteArray)(es:List MapEntry)(keys:List ByteArray)(h:es.map (·.key)=keys.map Value.string) :
  (Ba keys s=false∧Instr.findNow .string (.string s) es 0=some none)∨
  (Ba keys s=true∧∃j e,Instr.findNow .string (.string s) es 0=some (some (0+j,e.val))∧es[j]?=some e∧e.key=.string s):=by
 have hm:∀x∈es,∃k∈keys,x.key=.string k:=fun x hx=>by
  have:x.key∈es.map (·.key):=List.mem_map.2 ⟨x,hx,rfl⟩
  rw[h,List.mem_map]at this
  obtain⟨k,hk,e⟩:=this
  exact⟨k,hk,e.symm⟩
 rcases MapKept.findNow_spec (d:=.string) (k:=.string s) trivial es 0 (fun x hx=>by obtain⟨k,_,e⟩:=hm x hx;rw[e];trivial)with⟨h1,h2⟩|⟨j,e,h1,h2,h3⟩
 ·refine .inl ⟨?_,h1⟩
  cases hk:Ba keys s with
  |false=>rfl
  |true=>
   have:=(Ii keys s).1 hk
   have:Value.string s∈es.map (·.key):=by rw[h];exact List.mem_map.2 ⟨s,this,rfl⟩
   obtain⟨x,hx,e⟩:=List.mem_map.1 this
   exact absurd e (h2 x hx)
 ·refine .inr ⟨?_,j,e,h1,h2,h3⟩
  obtain⟨k,hk,e'⟩:=hm e (List.mem_of_getElem? h2)
  rw[h3]at e'
  obtain rfl:s=k:=by injection e'
  exact(Ii keys s).2 hk
theorem agJ{P:Program}{w:World}{mty kt et:TypeId}{d:TypeDesc}{r clock i:Nat}{es:Array MapEntry}{e:MapEntry}{v0:Value}(v:Value)(hm:P.underlying mty=some (.map kt et))(hd:P.underlying kt=some d)(hk:MapKept.IsKey d e.key)
  (hf:Instr.findNow d e.key es.toList 0=some (some (i,v0))) (hi:es[i]?=some e) (hb:w.heap[r]?=some (.map es clock)) :
  (Instr.mapUpdate mty (.map (some r)) e.key v).run P w=.ok () (w.putObj r (.map (es.modify i fun e=>{e with val:=v}) clock)):=by
 have hc:(Instr.checkKey false 10000 kt e.key).run P w=.ok () w:=MapKept.run_checkKey hd hk false 9999
 have hx:(es.modify i fun x=>{x with key:=e.key,val:=v})=es.modify i fun e=>{e with val:=v}:=by
  apply Array.ext_getElem?
  intro j
  rw[Array.getElem?_modify,Array.getElem?_modify]
  split
  ·rename_i hij;subst hij;rw[hi];rfl
  ·rfl
 simp[Instr.mapUpdate,run_underlying hm,MapKept.run_getObj_map hb,hc,MapKept.run_findKey hd hf,hi,MapKept.run_keyThatStays hk,MapKept.run_setObj_map _ hb,Result.andThen,World.putObj,hx]
def vH(w:World)(r:Nat)(keys:List ByteArray)(k:Nat):Prop:=
 ∃es clock,w.heap[r]?=some (.map es clock)∧es.toList.map (·.key)=keys.map Value.string∧∀e∈es.toList,∃n:Nat,e.val=.int .i64 n∧n≤k
theorem vH.size{w:World}{r k:Nat}{keys:List ByteArray}(h:vH w r keys k):∃es clock,w.heap[r]?=some (.map es clock)∧es.size=keys.length:=by
 obtain⟨es,clock,h1,h2,_⟩:=h
 refine⟨es,clock,h1,?_⟩
 have:=congrArg List.length h2
 simpa using this
theorem vH.lt{w:World}{r k:Nat}{keys:List ByteArray}(h:vH w r keys k):r<w.heap.size:=by
 obtain⟨es,clock,h1,_⟩:=h
 exact(Array.getElem?_eq_some_iff.1 h1).1
theorem vH.step{P:Program}{w:World}{mty kt et:TypeId}{r k:Nat}{keys:List ByteArray}(h:vH w r keys k)(hm:P.underlying mty=some (.map kt et))(hd:P.underlying kt=some .string)
  (hz:∀w,(zeroValue et).run P w=.ok (.int .i64 0) w) (s:ByteArray) :
  ∃(n:Nat) (w':World),n≤k∧(Instr.lookup mty (.map (some r)) (.string s) false).run P w=.ok (.int .i64 n) w∧
   (Instr.mapUpdate mty (.map (some r)) (.string s) (.int .i64 ((n:Int)+1))).run P w=.ok () w'∧vH w' r (addKey keys s) (k+1)∧w.grownBy w' (some r):=by
 obtain⟨es,clock,h1,h2,h3⟩:=h
 rcases agI s es.toList keys h2 with⟨hk,hf⟩|⟨hk,j,e,hf,he,hes⟩
 ·refine⟨0,_,Nat.zero_le _,Nz false hm hd (k:=.string s) trivial hf (hz w) h1,Nk _ hm hd (k:=.string s) trivial hf h1,⟨_,_,World.putObj_heap_same (Array.getElem?_eq_some_iff.1 h1).1,?_,?_⟩,grownBy_putObj' _ _ _⟩
  ·simp[addKey,hk,h2]
  ·intro x hx
   rw[Array.toList_push,List.mem_append]at hx
   rcases hx with hx|hx
   ·obtain⟨n,h4,h5⟩:=h3 x hx;exact⟨n,h4,by omega⟩
   ·simp at hx;subst hx;exact⟨1,by simp,by omega⟩
 ·have hj:es[j]?=some e:=by simpa using he
  obtain⟨n,hn,hnk⟩:=h3 e (List.mem_of_getElem? he)
  rw[Nat.zero_add]at hf
  rw[←hes]
  rw[←hes]at hf
  have hik:MapKept.IsKey .string e.key:=by rw[hes];trivial
  have hg:=Nz false hm hd (k:=e.key) hik hf (hz w) h1
  refine⟨n,_,hnk,by rw[hg];simp[Be,hn],agJ _ hm hd hik hf hj h1,⟨_,_,World.putObj_heap_same (Array.getElem?_eq_some_iff.1 h1).1,?_,?_⟩,grownBy_putObj' _ _ _⟩
  ·rw[addKey,hk,if_pos rfl,←h2]
   apply List.ext_getElem?
   intro i
   simp only[List.getElem?_map,Array.getElem?_toList,Array.getElem?_modify]
   split
   ·cases es[i]?<;>rfl
   ·rfl
  ·intro x hx
   obtain⟨i,hi,rfl⟩:=List.mem_iff_getElem.1 hx
   simp only[Array.length_toList,Array.size_modify]at hi
   rw[Array.getElem_toList,Array.getElem_modify]
   split
   ·exact⟨n+1,by simp,by omega⟩
   ·obtain⟨m,h4,h5⟩:=h3 es[i] (by simp);exact⟨m,h4,by omega⟩
end Go.WW
namespace Go.WW
theorem agK(l:List aB)(k:Nat)(h:k<l.length):keysOf ((l.take (k+1)).map textOf)=addKey (keysOf ((l.take k).map textOf)) (textOf l[k]):=by
 rw[List.take_succ_eq_append_getElem h,List.map_append,List.map_cons,List.map_nil,afa]
theorem VZ{P:Program}{w:World}{r clock:Nat}{es:Array MapEntry}{t k e:TypeId}(ht:P.underlying t=some (.map k e))(ty:TypeId)(hb:w.heap[r]?=some (.map es clock)):(Builtin.len_ #[t] ty #[.map (some r)]).run P w=.ok (.int .i64 es.size) w:=by
 simp[Builtin.len_,run_underlying ht,MapKept.run_getObj_map hb,Result.andThen,goInt]
end Go.WW
namespace Go.Proofs.YtaghcadlgbnbdaaGreatDoor
open Go.RowKit Go.WW
theorem agL(w:World):(zeroValue 3).run Tryz.prog w=.ok (.int .i64 0) w:=by kernel_rfl
theorem agM(a:Option Addr)(cap:Nat)(w:World):Calls Tryz.prog 174 #[.slice a 0 cap] w fun e w'=>e=.returned (.bool true)∧Below w.heap.size w w':=by
 have hmm:=@run_makeMap Tryz.prog
 have hm1:=fun ty=>VZ (P:=Tryz.prog) Tryz.underlying284 ty (World.alloc_heap_new w (.map #[] 0))
 go_enter Tryz.func174,Tryz.ntmps174
 go_wp2_with fail
 refine wp_loop_rounds 1 ?_
 rw[rounds_succ]
 go_wp2_with fail
 go_ret
 exact⟨rfl,(Below.refl _ _).alloc (Nat.le_refl _) _⟩
theorem V9(a:Option Addr)(cap:Nat)(l:List aB)(w:World)(hl:eG w a l)(hok:l.all bD=true):Calls Tryz.prog 174 #[.slice a l.length cap] w fun e w'=>e=.returned (.bool (vz l))∧Below w.heap.size w w':=by
 have hn:l.length≤4294967000:=hl.1
 rcases aO.addr hl with h0|⟨b,o,rfl,hb⟩
 ·obtain rfl:l=[]:=List.eq_nil_of_length_eq_zero h0
  exact agM a cap w
 have hmm:=@run_makeMap Tryz.prog
 have HO:=Lib.hid hok
 clear hok
 go_enter Tryz.func174,Tryz.ntmps174
 go_wp2_with fail
 go_loopw [11] (fun i wr=>∃k:Nat,k≤l.length∧i=.int .i64 k∧Below w.heap.size w wr∧vH wr w.heap.size (keysOf ((l.take k).map textOf)) k) (fun i _=>l.length-(intOf i).toNat)
 case atStart=>exact⟨0,Nat.zero_le _,rfl,(Below.refl _ _).alloc (Nat.le_refl _) _,#[],0,World.alloc_heap_new w (.map #[] 0),rfl,by simp⟩
 case round=>
  clear hmm
  obtain⟨k,hk,rfl,hbr,hC⟩:=hrel
  by_cases hlt:k<l.length
  ·obtain⟨t,hc,hp⟩:=hl.at k hlt
   obtain⟨hcc,aU,hrr⟩:=bf hbr
   go_wp2_with fail
   have hb1:=aC hbr (.cells (ak t l[k]) 25)
   refine(VX _ _ _ (hp.later hb1) (List.all_eq_true.1 HO.out _ (List.getElem_mem hlt))).mono ?_
   rintro e w1 ⟨rfl,hb2⟩
   have hb3:=ag hb1 hb2
   have hr:=hC.lt
   have We:vH w1 w.heap.size (keysOf ((l.take k).map textOf)) k:=by
    obtain⟨es,clock,h1,h2⟩:=hC
    exact⟨es,clock,(hb2.block _ (by simp;omega)).trans ((Below.heap_alloc wr _ _ hr).trans h1),h2⟩
   obtain⟨n,w2,hnk,hlk,hup,hC2,hg⟩:=We.step (P:=Tryz.prog) Tryz.underlying284 Tryz.underlying9 agL (textOf l[k])
   rw[←agK l k hlt]at hC2
   have hb4:Below w.heap.size w w2:=hb3.grown hg hb3.size (fun g e=>by cases e;omega)
   clear hcc aU hrr We hC hbr
   go_wp2_with fail
   clear hlk hup
   go_roundw
   case rel=>exact⟨k+1,by omega,by go_num,hb4,hC2⟩
   case measure=>simp[intOf];omega
  ·have hE:l.take k=l:=List.take_of_length_le (by omega)
   rw[hE]at hC
   obtain⟨es,clock,hm,hs⟩:=hC.size
   have hkl:=afc (l.map textOf)
   have HN:=Lib.hid (show vz l=decide ((es.size:Int)=(l.length:Int)) by rw[vz,hs])
   have hsl:es.size≤4294967000:=by rw[hs];simp at hkl;omega
   have hln:=fun ty=>VZ (P:=Tryz.prog) Tryz.underlying284 ty hm
   clear hE hkl hs hm
   go_wp2_with fail
   go_ret
   exact⟨by rw[HN.out];first|rfl|(congr 2),hbr⟩
end Go.Proofs.YtaghcadlgbnbdaaGreatDoor
namespace Go.WW
def Iy(x:aW):Bool:=decide (0<x.jr) || x.fP.toList.isEmpty
theorem agN{x:aW}(h1:au x.version 1 65535=true)(h2:au x.keys.length 1 4=true):iI x=(decide ((x.fP.size:Int)≤256)&&au x.jr 0 65536&&Iy x&&au x.created 0 1099511627776):=by
 rw[iI,h1,h2,Iy];rfl
end Go.WW
namespace Go.Proofs.YtaghcadlgbnbdaaGreatDoor
open Go.RowKit Go.WW
theorem agO(s:Sl)(x:aW)(m:Int)(w:World)(hx:jG w s x):Calls Tryz.prog 177 #[.agg (aV s x),.int .i64 m] w fun e w'=>e=.returned (.bool (gV m x))∧Below w.heap.size w w':=by
 have hn:x.keys.length≤4294967000:=hx.1.1
 have hs:x.fP.size≤4294967000:=hx.2
 have hB:Below w.heap.size w ((w.alloc (.cells (aV s x) 61)).alloc (.cells #[.int .i64 m] 3)):=((Below.refl _ w).alloc (Nat.le_refl _) _).alloc (by simp) _
 have Wh:=hx.later hB
 have g0:((w.alloc (.cells (aV s x) 61)).alloc (.cells #[.int .i64 m] 3)).cell? ⟨w.heap.size,0,none⟩=some (.int .i64 x.version):=by simp[go_sem]
 have g1:((w.alloc (.cells (aV s x) 61)).alloc (.cells #[.int .i64 m] 3)).cell? ⟨w.heap.size+1,0,none⟩=some (.int .i64 m):=by simp[go_sem]
 have hlim:∀k∈x.keys,k.bytes.length≤lim:=fun k hk=>by
  obtain⟨i,hi,rfl⟩:=List.mem_iff_getElem.1 hk
  obtain⟨_,_,_,_,_,h3⟩:=hx.1.get i hi
  exact h3.1
 have HF:=Lib.hid (afU s.a s.cap 251 4 x.keys w.heap.size (w.heap.size+1) (iC m x.version) _ agC Wh.1 (fun y t p hp _=>agB t p _ _ m x.version y.w (hlim p hp) ((y.b.cell (p:=⟨w.heap.size,0,none⟩) (by simp;omega)).trans g0) ((y.b.cell (p:=⟨w.heap.size+1,0,none⟩) (by simp)).trans g1)))
 have HL:=Lib.hid hlim
 clear g0 g1 hlim
 go_enter Tryz.func177,Tryz.ntmps177
 cases c1:au x.version 1 65535
 ·have HN:=Lib.hid (agv (m:=m) c1)
  go_wp2_with (go_at_call 102;refine(xq _ _ _ _).mono ?_;rintro e w' ⟨rfl,rfl⟩)
  go_ret
  exact⟨by rw[HN.out];rfl,hB⟩
 cases c2:decide (1≤(x.keys.length:Int))
 ·have HN:=Lib.hid (agw (m:=m) c2)
  have c2':decide (1≤x.keys.length)=false:=by rw[decide_eq_false_iff_not]at c2 ⊢;omega
  go_wp2_with (go_at_call 102;refine(xq _ _ _ _).mono ?_;rintro e w' ⟨rfl,rfl⟩)
  go_ret
  exact⟨by rw[HN.out];rfl,hB⟩
 have c2':decide (1≤x.keys.length)=true:=by rw[decide_eq_true_eq]at c2 ⊢;omega
 go_wp2_with (go_at_call 102;refine(xq _ _ _ _).mono ?_;rintro e w' ⟨rfl,rfl⟩)
 refine(HF.out).mono ?_
 rintro e w1 ⟨rfl,hb1⟩
 have hB1:=ag hB hb1
 obtain⟨hcc,aU,hrr⟩:=bf hb1
 have hsz:w.heap.size+1<w1.heap.size:=by have:=hb1.size;simp at this;omega
 cases c3:(decide ((x.keys.length:Int)≤4)&&x.keys.all (iC m x.version))
 ·have HN:=Lib.hid (agx c3)
  go_wp2_with fail
  go_ret
  exact⟨by rw[HN.out];rfl,hB1⟩
 go_wp2_with fail
 refine(af0 _ _ _ _ (hx.1.later hB1)).mono ?_
 rintro e w2 ⟨rfl,hb2⟩
 have hB2:=ag hB1 hb2
 clear hcc aU hrr
 have hbb:Below ((w.alloc (.cells (aV s x) 61)).alloc (.cells #[.int .i64 m] 3)).heap.size ((w.alloc (.cells (aV s x) 61)).alloc (.cells #[.int .i64 m] 3)) w2:=ag hb1 hb2
 obtain⟨hcc,aU,hrr⟩:=bf hbb
 have hsz2:w.heap.size+1<w2.heap.size:=by have:=hbb.size;simp at this;omega
 cases c4:ordered lN x.keys
 ·have HN:=Lib.hid (agy (m:=m) c4)
  go_wp2_with fail
  go_ret
  exact⟨by rw[HN.out];rfl,hB2⟩
 obtain⟨hy1,hy2⟩:=agz c2 c3 c4
 have HN:=Lib.hid (hy1.trans (agN c1 hy2))
 clear hy1 hy2 Wh hx hb1 hb2 hbb hB1 hB
 cases c5:decide ((x.fP.size:Int)≤256)
 ·have c5':decide (x.fP.size≤256)=false:=by rw[decide_eq_false_iff_not]at c5 ⊢;omega
  go_wp2_with fail
  go_ret
  exact⟨by rw[HN.out,c5];rfl,hB2⟩
 have c5':decide (x.fP.size≤256)=true:=by rw[decide_eq_true_eq]at c5 ⊢;omega
 cases c6:au x.jr 0 65536
 ·go_wp2_with (go_at_call 102;refine(xq _ _ _ _).mono ?_;rintro e w' ⟨rfl,rfl⟩)
  go_ret
  exact⟨by rw[HN.out,c5,c6];rfl,hB2⟩
 cases c7:decide (0<x.jr)
 ·cases c8:x.fP.toList.isEmpty
  have c8':¬x.fP.toList=[]:=by simpa using c8
  rotate_left
  have c8':x.fP.toList=[]:=by simpa using c8
  rotate_left
  all_goals
   go_wp2_with (go_at_call 102;refine(xq _ _ _ _).mono ?_;rintro e w' ⟨rfl,rfl⟩)
   go_ret
   exact⟨by rw[HN.out,c5,c6,Iy,c7,c8];rfl,hB2⟩
 ·go_wp2_with (go_at_call 102;refine(xq _ _ _ _).mono ?_;rintro e w' ⟨rfl,rfl⟩)
  go_ret
  exact⟨by rw[HN.out,c5,c6,Iy,c7];rfl,hB2⟩
theorem agR(s:Sl)(x:aW)(B:Nat)(m:Int)(w:World)(hx:jG w s x)(h:w.cell? ⟨B,4,none⟩=some (.int .i64 m)):Calls Tryz.prog 176 #[.agg (aV s x),.pointer (some ⟨B,0,none⟩)] w fun e w'=>e=.returned (.bool (gV m x))∧Below w.heap.size w w':=by
 have hb:B<w.heap.size:=World.block_lt_of_cell? w _ h
 have hB:Below w.heap.size w (w.alloc (.cells (aV s x) 61)):=(Below.refl _ w).alloc (Nat.le_refl _) _
 go_enter Tryz.func176,Tryz.ntmps176
 go_wp2_with fail
 refine(agO _ _ _ _ (hx.later hB)).mono ?_
 rintro e w1 ⟨rfl,hb1⟩
 go_wp2_with fail
 go_ret
 exact⟨rfl,ag hB hb1⟩
theorem agS:Enters 176:=⟨fun args w=>by kernel_rfl⟩
def xH(d:Entry):Bool:=(decide ((d.keys.length:Int)≤16)&&d.keys.all (gV d.gU))&&ordered jI d.keys
theorem agT(r:aI)(d:Entry)(w:World)(he:bz w r d):Calls Tryz.prog 104 #[.agg (ae r d)] w fun e w'=>e=.returned (.bool (xH d))∧Below w.heap.size w w':=by
 have hB:Below w.heap.size w (w.alloc (.cells (ae r d) 32)):=(Below.refl _ w).alloc (Nat.le_refl _) _
 have hk:=he.keys.later hB
 have g:(w.alloc (.cells (ae r d) 32)).cell? ⟨w.heap.size,4,none⟩=some (.int .i64 d.gU):=by simp[go_sem]
 have HF:=Lib.hid (afS r.keys.a r.keys.cap 176 16 d.keys w.heap.size (gV d.gU) _ agS hk (fun y t p _ hp=>agR t p _ d.gU y.w hp ((y.b.cell (p:=⟨w.heap.size,4,none⟩) (by simp)).trans g)))
 clear g hk
 go_enter Tryz.func104,Tryz.ntmps104
 go_wp2_with fail
 refine(HF.out).mono ?_
 rintro e w1 ⟨rfl,hb1⟩
 have hB1:=ag hB hb1
 obtain⟨hcc,aU,hrr⟩:=bf hb1
 have hsz:w.heap.size<w1.heap.size:=by have:=hb1.size;simp at this;omega
 cases c1:(decide ((d.keys.length:Int)≤16)&&d.keys.all (gV d.gU))
 ·have HN:=Lib.hid (show xH d=false by rw[xH,c1];rfl)
  go_wp2_with fail
  go_ret
  exact⟨by rw[HN.out];rfl,hB1⟩
 ·have HN:=Lib.hid (show xH d=ordered jI d.keys by rw[xH,c1];rfl)
  go_wp2_with fail
  refine(af2 _ _ _ _ (he.keys.later hB1)).mono ?_
  rintro e w2 ⟨rfl,hb2⟩
  go_wp2_with fail
  go_ret
  exact⟨by rw[HN.out];rfl,ag hB1 hb2⟩
theorem agU:Enters 172:=⟨fun args w=>by kernel_rfl⟩
theorem Wi(a:Option Addr)(cap:Nat)(l:List aB)(w:World)(hl:eG w a l):Calls Tryz.prog 106 #[.slice a l.length cap] w fun e w'=>e=.returned (.bool (different l))∧Below w.heap.size w w':=by
 have HF:=Lib.hid (afO a cap 172 16 l bD _ agU hl (fun y t p _ hp=>Ed t p y.w hp))
 have HE:=Lib.hid (afd l)
 go_enter Tryz.func106,Tryz.ntmps106
 go_wp2_with fail
 refine(HF.out).mono ?_
 rintro e w1 ⟨rfl,hb1⟩
 cases c1:(decide ((l.length:Int)≤16)&&l.all bD)
 ·have HN:=Lib.hid (show different l=false by rw[←HE.out,c1];rfl)
  go_wp2_with fail
  go_ret
  exact⟨by rw[HN.out];rfl,hb1⟩
 ·have HN:=Lib.hid (show different l=vz l by rw[←HE.out,c1];rfl)
  have hall:l.all bD=true:=by rw[Bool.and_eq_true]at c1;exact c1.2
  have HA:=Lib.hid hall
  clear hall
  go_wp2_with fail
  refine(V9 _ _ _ _ (hl.later hb1) HA.out).mono ?_
  rintro e w2 ⟨rfl,hb2⟩
  go_wp2_with fail
  go_ret
  exact⟨by rw[HN.out];rfl,ag hb1 hb2⟩
theorem agV:Enters 171:=⟨fun args w=>by kernel_rfl⟩
theorem agW(s:Sl)(p n:aB)(B:Nat)(w:World)(hp:bg w s p)(h:w.cell? ⟨B,1,none⟩=some (.string n.aG)):Calls Tryz.prog 171 #[.agg (ak s p),.pointer (some ⟨B,0,none⟩)] w fun e w'=>e=.returned (.bool (rF n p))∧Below w.heap.size w w':=by
 have hb:B<w.heap.size:=World.block_lt_of_cell? w _ h
 have hB:Below w.heap.size w (w.alloc (.cells (ak s p) 25)):=(Below.refl _ w).alloc (Nat.le_refl _) _
 go_enter Tryz.func171,Tryz.ntmps171
 go_wp2_with fail
 refine(Ed _ _ _ (hp.later hB)).mono ?_
 rintro e w1 ⟨rfl,hb1⟩
 have hB1:=ag hB hb1
 obtain⟨hcc,aU,hrr⟩:=bf hb1
 have hsz:w.heap.size<w1.heap.size:=by have:=hb1.size;simp at this;omega
 cases c1:bD p
 ·have HN:=Lib.hid (show rF n p=false by rw[rF,c1];rfl)
  go_wp2_with fail
  go_ret
  exact⟨by rw[HN.out];rfl,hB1⟩
 ·have HN:=Lib.hid (show rF n p=(p.aG.toList == n.aG.toList) by
   rw[rF,c1]
   by_cases h':p.aG=n.aG
   ·rw[str_eq _ _ h'];simp[h']
   ·rw[kD _ _ h'];simp[h'])
  go_wp2_with fail
  go_ret
  exact⟨by rw[HN.out];rfl,hB1⟩
theorem agX:gJ Tryz.prog 26 25 2 40:=gJ.of Tryz.underlying26 (by kernel_rfl)
theorem bJ.alloc{w:World}{k:Nat}{A:Option Addr}{rows:List (Array Value)}(h:bJ w k A rows)(ob:Obj):bJ (w.alloc ob) k A rows:=
 ⟨h.size,h.one,fun i hi=>by obtain⟨b,o,h1,h2⟩:=h.at_ i hi;exact⟨b,o,h1,by rw[SQ (gq h2)];exact h2⟩⟩
theorem agY(r:aI)(d:Entry)(w:World)(he:bz w r d):Calls Tryz.prog 103 #[.agg (ae r d)] w fun e w'=>e=.returned (.bool (rG d))∧Below w.heap.size w w':=by
 have hB:Below w.heap.size w (w.alloc (.cells (ae r d) 32)):=(Below.refl _ w).alloc (Nat.le_refl _) _
 have hA:=he.aliases.later hB
 have hal:d.aliases.length≤4294967000:=he.aliases.1
 have g:(w.alloc (.cells (ae r d) 32)).cell? ⟨w.heap.size,1,none⟩=some (.string d.name.aG):=by simp[go_sem]
 have HF:=Lib.hid (fun(w1:World) (hb1:Below (w.alloc (.cells (ae r d) 32)).heap.size (w.alloc (.cells (ae r d) 32)) w1)=>afQ r.aliases.a r.aliases.cap 171 16 d.aliases w.heap.size (rF d.name) w1 agV (hA.later hb1) (fun y t p _ hp=>agW t p d.name _ y.w hp (((ag hb1 y.b).cell (p:=⟨w.heap.size,1,none⟩) (by simp)).trans g)))
 clear g hA
 go_enter Tryz.func103,Tryz.ntmps103
 go_wp2_with fail
 refine(Ed _ _ _ (he.name.later hB)).mono ?_
 rintro e w1 ⟨rfl,hb1⟩
 have hB1:=ag hB hb1
 obtain⟨hcc,aU,hrr⟩:=bf hb1
 have hsz:w.heap.size<w1.heap.size:=by have:=hb1.size;simp at this;omega
 cases c1:bD d.name
 ·have HN:=Lib.hid (show rG d=false by rw[rG,c1];rfl)
  go_wp2_with fail
  go_ret
  exact⟨by rw[HN.out];rfl,hB1⟩
 go_wp2_with fail
 refine(HF.out w1 hb1).mono ?_
 rintro e w2 ⟨rfl,hb2⟩
 have hb2':=ag hb1 hb2
 have hB2:=ag hB1 hb2
 clear hcc aU hrr hsz
 obtain⟨hcc,aU,hrr⟩:=bf hb2'
 have hsz:w.heap.size<w2.heap.size:=by have:=hb2'.size;simp at this;omega
 cases c2:(decide ((d.aliases.length:Int)≤16)&&d.aliases.all (rF d.name))
 ·have HN:=Lib.hid (show rG d=false by rw[rG,c1,c2];rfl)
  go_wp2_with fail
  go_ret
  exact⟨by rw[HN.out];rfl,hB2⟩
 have HN:=Lib.hid (show rG d=vz (d.name::d.aliases) by rw[rG,c1,c2];rfl)
 have HO:=Lib.hid (show(d.name::d.aliases).all bD=true by
  rw[Bool.and_eq_true,List.all_eq_true]at c2
  rw[List.all_cons,c1,Bool.true_and,List.all_eq_true]
  intro a ha
  have:=c2.2 a ha
  rw[rF,Bool.and_eq_true]at this
  exact this.1)
 obtain⟨rows,hlr,o6,hrR⟩:=aO.src (he.aliases.later hB2) DW
 have mY:=Lib.hid hlr
 have HRR:=Lib.hid hrR
 have Wj:=bJ.alloc o6 (.cells (ak r.parts d.name) 25)
 have hown:=Own.one w2 (ak r.parts d.name) 25 2 (Lu _ _)
 clear hlr hrR
 go_wp2_with (at_builtin;refine acW rfl (.tmp 17) (.tmp 19) _ rfl agX (n:=1) (s:=⟨some ⟨w2.heap.size,0,none⟩,1⟩) rfl rfl hown rfl mY.out.symm Wj (by rw[mY.out];simp;omega) (by simp) ?_;intro s3 w3 hown3 hg3 fQ)
 have hb3:Below w2.heap.size w2 w3:=((Below.refl _ w2).alloc (Nat.le_refl _) _).grown hg3 (by simp) (fun k e=>by cases e;exact Nat.le_refl _)
 have aqT:d.aliases.length≤16:=by rw[Bool.and_eq_true,decide_eq_true_eq]at c2;omega
 have hP3:eG w3 s3.a (d.name::d.aliases):=by
  refine aO.dX hown3 (by have:=mY.out;simp;omega) (by unfold lim;simp;omega) ?_
  intro i hi
  cases i with
  |zero=>exact⟨d.name,r.parts,rfl,rfl,(he.name.later hB2).later hb3⟩
  |succ i=>
   have hi':i<rows.length:=by simpa using hi
   obtain⟨p,s,h1,h2,h3⟩:=HRR.out i hi'
   exact⟨p,s,by simpa using h1,by simpa using h2,h3.later hb3⟩
 have HD:=V9 s3.a s3.cap _ _ hP3 HO.out
 rw[List.length_cons,Nat.add_comm]at HD
 refine HD.mono ?_
 rintro e w4 ⟨rfl,hb4⟩
 clear hcc aU hrr o6 Wj hown hown3 hg3 fQ
 go_wp2_with fail
 go_ret
 exact⟨by rw[HN.out];rfl,ag (ag hB2 hb3) hb4⟩
end Go.Proofs.YtaghcadlgbnbdaaGreatDoor
namespace Go.WW
open Go.RowKit
def Eo(ops:Array Oper)(o:Oper)(a:Act):Option Act:=
 if Region.wanted o (yielded ops a.tmps)then
  match o.op with
  | .move x=>some (a.put o.dst (a.eval x))
  | .assign x=>some (a.put o.dst (a.eval x))
  | .pick c x y=>match a.eval c with | .bool b=>some (a.put o.dst (if b then a.eval x else a.eval y))|_=>none
  |_=>none
 else some (a.put o.dst undef)
def yT(ops:Array Oper):List Oper→Act→Option Act
 | [],a=>some a
 |o::l,a=>match Eo ops o a with|some a'=>yT ops l a'|none=>none
def okF(t:Nat):Option Act→Bool
 |some a=>match a.tmps.getD t undef with | .bool false=>true|_=>false
 |none=>false
theorem put_defers(a:Act)(d:Option Tmp)(v:Value):(a.put d v).defers=a.defers:=by unfold Act.put;cases d<;>rfl
theorem agZ{ops:Array Oper}{o:Oper}{a a':Act}(h:Eo ops o a=some a'):a'.defers=a.defers:=by
 unfold Eo at h
 split at h
 ·split at h
  iterate 2
   ·cases h;exact put_defers _ _ _
  ·split at h
   ·cases h;exact put_defers _ _ _
   ·cases h
  ·cases h
 ·cases h;exact put_defers _ _ _
theorem Wl{ops:Array Oper}:∀{l:List Oper} {a a':Act},yT ops l a=some a'→a'.defers=a.defers
 | [],a,a',h=>by cases h;rfl
 |o::l,a,a',h=>by
  unfold yT at h
  split at h
  ·rename_i b hb;rw[Wl h,agZ hb]
  ·cases h
theorem ag0{P:Program}{ops:Array Oper}{Q:Exit→Act→World→Prop}{o:Oper}{rest:List Oper}{a a':Act}{w:World}(h:Eo ops o a=some a')(hr:wpList P ops Q rest a' w):wpList P ops Q (o::rest) a w:=by
 refine wpList_step fun K hK=>?_
 unfold Eo at h
 split at h
 ·rename_i hw
  rw[if_pos hw]
  unfold Oper.wp
  split at h
  iterate 2
   ·rename_i x hop;cases h;simp only[execOp,hop,Sem.run_pure,Oper.upon];exact hK _ _ hr
  ·rename_i c x y hop
   split at h
   ·rename_i b hb;cases h
    simp only[execOp,hop,hb,asBool,Sem.run_bind,Sem.run_pure,Result.andThen,Oper.upon]
    exact hK _ _ (by cases b<;>exact hr)
   ·cases h
  ·cases h
 ·rename_i hw
  cases h
  rw[if_neg hw]
  exact hK _ _ hr
theorem Wn{P:Program}{ops:Array Oper}{Q:Exit→Act→World→Prop}{w:World}:∀{l:List Oper} {a a':Act},yT ops l a=some a'→Q .normal a' w→wpList P ops Q l a w
 | [],a,a',h,hq=>by cases h;exact hq
 |o::l,a,a',h,hq=>by
  unfold yT at h
  split at h
  ·rename_i b hb;exact ag0 hb (Wn h hq)
  ·cases h
theorem uo{P:Program}{ops:Array Oper}{Q:Exit→Act→World→Prop}{w:World}{l:List Oper}{a:Act}(t:Nat)(h:okF t (yT ops l a)=true)(hq:∀a',a'.tmps.getD t undef=.bool false→a'.defers=a.defers→Q .normal a' w):wpList P ops Q l a w:=by
 cases hr:yT ops l a with
 |none=>rw[hr]at h;cases h
 |some a'=>
  refine Wn hr (hq a' ?_ (Wl hr))
  rw[hr]at h
  unfold okF at h
  split at h
  ·rename_i b hb
   cases hb
   split at h
   ·assumption
   ·cases h
  ·cases h
end Go.WW
namespace Go.WW
theorem ag1(x y:BitVec 32):(x&&& ~~~y=0#32)↔(x ||| y=y):=by
 constructor
 ·intro h
  apply BitVec.eq_of_getElem_eq
  intro i hi
  have:=congrArg (fun v=>v[i]) h
  simp at this ⊢
  intro h'
  cases hy:y[i]
  ·exact absurd (this h') (by simp[hy])
  ·rfl
 ·intro h
  apply BitVec.eq_of_getElem_eq
  intro i hi
  have:=congrArg (fun v=>v[i]) h
  simp at this ⊢
  exact this
theorem ag2(a:Int)(h0:0≤a)(h1:a≤4294967295):(bits .andNot .u32 a 1023 == 0)=yN a:=by
 obtain⟨n,rfl⟩:=Int.eq_ofNat_of_zero_le h0
 have hn:n<4294967296:=by omega
 have e:bits .andNot .u32 (n:Int) 1023=((BitVec.ofInt 32 (n:Int)&&& ~~~ BitVec.ofInt 32 1023).toNat:Int):=by
  show IntKind.u32.wrap ((BitVec.ofInt 32 (n:Int)&&& ~~~ BitVec.ofInt 32 1023).toNat:Int)=_
  have:=(BitVec.ofInt 32 (n:Int)&&& ~~~ BitVec.ofInt 32 1023).isLt
  generalize (BitVec.ofInt 32 (n:Int)&&& ~~~ BitVec.ofInt 32 1023).toNat=v at this ⊢
  have e2:(2:Int) ^ IntKind.u32.bits=4294967296:=rfl
  have e3:IntKind.u32.signed=false:=rfl
  simp[IntKind.wrap,e2,e3]
  omega
 have e1:(BitVec.ofInt 32 (n:Int)).toNat=n:=by simp;omega
 have k1:((BitVec.ofInt 32 (n:Int)&&& ~~~ BitVec.ofInt 32 1023).toNat=0)↔n≤1023:=by
  rw[show(BitVec.ofInt 32 (n:Int)&&& ~~~ BitVec.ofInt 32 1023).toNat=0↔BitVec.ofInt 32 (n:Int)&&& ~~~ BitVec.ofInt 32 1023=0#32 from⟨fun h=>BitVec.eq_of_toNat_eq (by rw[h];rfl),fun h=>by rw[h];rfl⟩,ag1]
  rw[show(BitVec.ofInt 32 (n:Int) ||| BitVec.ofInt 32 1023=BitVec.ofInt 32 1023)↔(n ||| 1023=1023) from ?_]
  ·exact UR n
  ·constructor
   ·intro h
    have:=congrArg BitVec.toNat h
    rw[BitVec.toNat_or,e1]at this
    exact this
   ·intro h
    apply BitVec.eq_of_toNat_eq
    rw[BitVec.toNat_or,e1]
    exact h
 rw[e,yN,Bool.eq_iff_iff]
 simp only[beq_iff_eq,decide_eq_true_eq]
 omega
open Go.RowKit
theorem Wp{w:World}{b:Nat}(x:Int)(h:w.cell? ⟨b,0,none⟩=some (.int .i64 x)):pW w (some ⟨b,0,none⟩) [x]:=by
 refine⟨by simp[lim],fun i hi=>?_⟩
 match i,hi with
 |0,_=>exact⟨_,_,_,rfl,h,x,rfl,rfl⟩
theorem ag3{w:World}{b:Nat}(x y:Int)(h:w.cell? ⟨b,0,none⟩=some (.int .i64 x))(h1:w.cell? ⟨b,1,none⟩=some (.int .i64 y)):pW w (some ⟨b,0,none⟩) [x,y]:=by
 refine⟨by simp[lim],fun i hi=>?_⟩
 match i,hi with
 |0,_=>exact⟨_,_,_,rfl,h,x,rfl,rfl⟩
 |1,_=>exact⟨_,_,_,rfl,h1,y,rfl,rfl⟩
theorem ag4{w:World}{b:Nat}(x y z u:Int)(h:w.cell? ⟨b,0,none⟩=some (.int .i64 x))(h1:w.cell? ⟨b,1,none⟩=some (.int .i64 y))(h2:w.cell? ⟨b,2,none⟩=some (.int .i64 z))(h3:w.cell? ⟨b,3,none⟩=some (.int .i64 u)):pW w (some ⟨b,0,none⟩) [x,y,z,u]:=by
 refine⟨by simp[lim],fun i hi=>?_⟩
 match i,hi with
 |0,_=>exact⟨_,_,_,rfl,h,x,rfl,rfl⟩
 |1,_=>exact⟨_,_,_,rfl,h1,y,rfl,rfl⟩
 |2,_=>exact⟨_,_,_,rfl,h2,z,rfl,rfl⟩
 |3,_=>exact⟨_,_,_,rfl,h3,u,rfl,rfl⟩
end Go.WW
namespace Go.Proofs.YtaghcadlgbnbdaaGreatDoor
open Go.RowKit Go.WW
def iR(d:Entry):Bool:=rG d&&yN d.attrs&&([d.gU].all fun v=>au v 0 65535)&&xH d&&(visible d.aK&&decide ((d.aK.size:Int)≤32))&&([d.mO,d.mP,d.iw,d.jw].all fun v=>au v 0 1099511627776)&&
 ([d.mQ,d.mV].all fun v=>au v 0 2147483648)&&([d.fails].all fun v=>au v 0 65535)&&different d.targets&&different d.bH&&(decide ((d.history.length:Int)≤16)&&d.history.all (fun h=>(h.length:Int) == 16))
theorem valid_eq(d:Entry):iR d=bF d:=by
 unfold iR bF
 rw[afe]
 simp only[xH,jT,jk,List.all_cons,List.all_nil,Bool.and_true]
 rw[Bool.eq_iff_iff]
 simp only[Bool.and_eq_true]
 constructor
 iterate 2
  ·intro h;simp only[h,and_self]
theorem ag5(a:Option Addr)(n cap:Nat)(w:World):Calls Tryz.prog 108 #[.slice a n cap] w fun e w'=>e=.returned (.bool ((n:Int) == 16))∧Below w.heap.size w w':=by
 go_enter Tryz.func108,Tryz.ntmps108
 go_wp2_with fail
 go_ret
 exact⟨by first|rfl|(congr 2;rw[Bool.eq_iff_iff];simp;omega),Below.refl _ _⟩
theorem ag6:Enters 108:=⟨fun args w=>by kernel_rfl⟩
theorem Iz(r:aI)(d:Entry)(w:World)(he:bz w r d):Calls Tryz.prog 53 #[.agg (ae r d)] w fun e w'=>e=.returned (.bool (bF d))∧Below w.heap.size w w':=by
 have hB:Below w.heap.size w (w.alloc (.cells (ae r d) 32)):=(Below.refl _ w).alloc (Nat.le_refl _) _
 have hps:d.aK.size≤maxLen:=by have:=he.aK;unfold lim at this;unfold maxLen;omega
 have HPS:=Lib.hid hps
 clear hps
 have hb0:Below (w.alloc (.cells (ae r d) 32)).heap.size (w.alloc (.cells (ae r d) 32)) (w.alloc (.cells (ae r d) 32)):=Below.refl _ _
 go_enter Tryz.func53,Tryz.ntmps53
 rw[←valid_eq]
 go_wp2_with fail
 have hbx:=hb0
 refine(agY _ _ _ (he.later (ag hB hbx))).mono ?_
 rintro e w1 ⟨rfl,hy⟩
 have hb1:=ag hbx hy
 clear hbx hy
 obtain⟨hcc,aU,hrr⟩:=bf hb1
 have hsz:w.heap.size<w1.heap.size:=by have:=hb1.size;simp at this;omega
 cases c1:rG d
 ·have HN:=Lib.hid (show iR d=false by rw[iR,c1];simp only[Bool.false_and])
  dsimp only
  first|go_values|go_step|go_upon
  refine uo 2 (by kernel_rfl) ?_
  intro a' h1 h2
  go_wp2_with fail
  refine bodyPost_ret (results_tmp (t:=2) (by rfl) _ _ _) h2 ?_
  exact⟨by rw[h1,HN.out],ag hB hb1⟩
 have hat:=ag2 d.attrs he.attrs.1 he.attrs.2
 cases c2:yN d.attrs
 ·have HN:=Lib.hid (show iR d=false by rw[iR,c2];simp only[Bool.and_false,Bool.false_and])
  rw[c2]at hat
  dsimp only
  iterate 17 (first|go_values|go_skip|go_guarded|go_step|go_upon)
  refine uo 2 (by kernel_rfl) ?_
  intro a' h1 h2
  go_wp2_with fail
  refine bodyPost_ret (results_tmp (t:=2) (by rfl) _ _ _) h2 ?_
  exact⟨by rw[h1,HN.out],ag hB hb1⟩
 rw[c2]at hat
 try dsimp only
 go_wp2_with fail
 have hbx:=aC hb1 (.cells #[.int .i64 d.gU] 3)
 refine(Ib _ _ _ 65535 [d.gU] _ (Wp _ (by simp[go_sem]))).mono ?_
 rintro e w2 ⟨rfl,hy⟩
 have hb2:=ag hbx hy
 clear hcc aU hrr hsz hbx hy
 obtain⟨hcc,aU,hrr⟩:=bf hb2
 have hsz:w.heap.size<w2.heap.size:=by have:=hb2.size;simp at this;omega
 cases c3:([d.gU].all fun v=>au v 0 65535)
 ·have HN:=Lib.hid (show iR d=false by rw[iR,c3];simp only[Bool.and_false,Bool.false_and])
  dsimp only
  first|go_values|go_step|go_upon
  refine uo 2 (by kernel_rfl) ?_
  intro a' h1 h2
  go_wp2_with fail
  refine bodyPost_ret (results_tmp (t:=2) (by rfl) _ _ _) h2 ?_
  exact⟨by rw[h1,HN.out],ag hB hb2⟩
 try dsimp only
 go_wp2_with fail
 have hbx:=hb2
 refine(agT _ _ _ (he.later (ag hB hbx))).mono ?_
 rintro e w3 ⟨rfl,hy⟩
 have hb3:=ag hbx hy
 clear hcc aU hrr hsz hbx hy
 obtain⟨hcc,aU,hrr⟩:=bf hb3
 have hsz:w.heap.size<w3.heap.size:=by have:=hb3.size;simp at this;omega
 cases c4:xH d
 ·have HN:=Lib.hid (show iR d=false by rw[iR,c4];simp only[Bool.and_false,Bool.false_and])
  dsimp only
  first|go_values|go_step|go_upon
  refine uo 2 (by kernel_rfl) ?_
  intro a' h1 h2
  go_wp2_with fail
  refine bodyPost_ret (results_tmp (t:=2) (by rfl) _ _ _) h2 ?_
  exact⟨by rw[h1,HN.out],ag hB hb3⟩
 try dsimp only
 go_wp2_with fail
 refine(adH _ _ HPS.out).mono ?_
 rintro e w' ⟨rfl,rfl⟩
 cases c5:(visible d.aK&&decide ((d.aK.size:Int)≤32))
 ·have HN:=Lib.hid (show iR d=false by rw[iR,c5];simp only[Bool.and_false,Bool.false_and])
  dsimp only
  first|go_values|go_step|go_upon
  refine uo 2 (by kernel_rfl) ?_
  intro a' h1 h2
  go_wp2_with fail
  refine bodyPost_ret (results_tmp (t:=2) (by rfl) _ _ _) h2 ?_
  exact⟨by rw[h1,HN.out],ag hB hb3⟩
 try dsimp only
 go_wp2_with fail
 have hbx:=aC hb3 (.cells #[.int .i64 d.mO,.int .i64 d.mP,.int .i64 d.iw,.int .i64 d.jw] 3)
 refine(Ib _ _ _ 1099511627776 [d.mO,d.mP,d.iw,d.jw] _ (ag4 _ _ _ _ (by simp[go_sem]) (by simp[go_sem]) (by simp[go_sem]) (by simp[go_sem]))).mono ?_
 rintro e w4 ⟨rfl,hy⟩
 have hb4:=ag hbx hy
 clear hcc aU hrr hsz hbx hy
 obtain⟨hcc,aU,hrr⟩:=bf hb4
 have hsz:w.heap.size<w4.heap.size:=by have:=hb4.size;simp at this;omega
 cases c6:([d.mO,d.mP,d.iw,d.jw].all fun v=>au v 0 1099511627776)
 ·have HN:=Lib.hid (show iR d=false by rw[iR,c6];simp only[Bool.and_false,Bool.false_and])
  dsimp only
  first|go_values|go_step|go_upon
  refine uo 2 (by kernel_rfl) ?_
  intro a' h1 h2
  go_wp2_with fail
  refine bodyPost_ret (results_tmp (t:=2) (by rfl) _ _ _) h2 ?_
  exact⟨by rw[h1,HN.out],ag hB hb4⟩
 try dsimp only
 go_wp2_with fail
 have hbx:=aC hb4 (.cells #[.int .i64 d.mQ,.int .i64 d.mV] 3)
 refine(Ib _ _ _ 2147483648 [d.mQ,d.mV] _ (ag3 _ _ (by simp[go_sem]) (by simp[go_sem]))).mono ?_
 rintro e w5 ⟨rfl,hy⟩
 have hb5:=ag hbx hy
 clear hcc aU hrr hsz hbx hy
 obtain⟨hcc,aU,hrr⟩:=bf hb5
 have hsz:w.heap.size<w5.heap.size:=by have:=hb5.size;simp at this;omega
 cases c7:([d.mQ,d.mV].all fun v=>au v 0 2147483648)
 ·have HN:=Lib.hid (show iR d=false by rw[iR,c7];simp only[Bool.and_false,Bool.false_and])
  dsimp only
  first|go_values|go_step|go_upon
  refine uo 2 (by kernel_rfl) ?_
  intro a' h1 h2
  go_wp2_with fail
  refine bodyPost_ret (results_tmp (t:=2) (by rfl) _ _ _) h2 ?_
  exact⟨by rw[h1,HN.out],ag hB hb5⟩
 try dsimp only
 go_wp2_with fail
 have hbx:=aC hb5 (.cells #[.int .i64 d.fails] 3)
 refine(Ib _ _ _ 65535 [d.fails] _ (Wp _ (by simp[go_sem]))).mono ?_
 rintro e w6 ⟨rfl,hy⟩
 have hb6:=ag hbx hy
 clear hcc aU hrr hsz hbx hy
 obtain⟨hcc,aU,hrr⟩:=bf hb6
 have hsz:w.heap.size<w6.heap.size:=by have:=hb6.size;simp at this;omega
 cases c8:([d.fails].all fun v=>au v 0 65535)
 ·have HN:=Lib.hid (show iR d=false by rw[iR,c8];simp only[Bool.and_false,Bool.false_and])
  dsimp only
  first|go_values|go_step|go_upon
  refine uo 2 (by kernel_rfl) ?_
  intro a' h1 h2
  go_wp2_with fail
  refine bodyPost_ret (results_tmp (t:=2) (by rfl) _ _ _) h2 ?_
  exact⟨by rw[h1,HN.out],ag hB hb6⟩
 try dsimp only
 go_wp2_with fail
 have hbx:=hb6
 refine(Wi _ _ d.targets _ (he.targets.later (ag hB hbx))).mono ?_
 rintro e w7 ⟨rfl,hy⟩
 have hb7:=ag hbx hy
 clear hcc aU hrr hsz hbx hy
 obtain⟨hcc,aU,hrr⟩:=bf hb7
 have hsz:w.heap.size<w7.heap.size:=by have:=hb7.size;simp at this;omega
 cases c9:different d.targets
 ·have HN:=Lib.hid (show iR d=false by rw[iR,c9];simp only[Bool.and_false,Bool.false_and])
  dsimp only
  first|go_values|go_step|go_upon
  refine uo 2 (by kernel_rfl) ?_
  intro a' h1 h2
  go_wp2_with fail
  refine bodyPost_ret (results_tmp (t:=2) (by rfl) _ _ _) h2 ?_
  exact⟨by rw[h1,HN.out],ag hB hb7⟩
 try dsimp only
 go_wp2_with fail
 have hbx:=hb7
 refine(Wi _ _ d.bH _ (he.bH.later (ag hB hbx))).mono ?_
 rintro e w8 ⟨rfl,hy⟩
 have hb8:=ag hbx hy
 clear hcc aU hrr hsz hbx hy
 obtain⟨hcc,aU,hrr⟩:=bf hb8
 have hsz:w.heap.size<w8.heap.size:=by have:=hb8.size;simp at this;omega
 cases c10:different d.bH
 ·have HN:=Lib.hid (show iR d=false by rw[iR,c10];simp only[Bool.and_false,Bool.false_and])
  dsimp only
  first|go_values|go_step|go_upon
  refine uo 2 (by kernel_rfl) ?_
  intro a' h1 h2
  go_wp2_with fail
  refine bodyPost_ret (results_tmp (t:=2) (by rfl) _ _ _) h2 ?_
  exact⟨by rw[h1,HN.out],ag hB hb8⟩
 have HN:=Lib.hid (show iR d=(decide ((d.history.length:Int)≤16)&&d.history.all (fun h=>(h.length:Int) == 16)) by rw[iR,c1,c2,c3,c4,c5,c6,c7,c8,c9,c10];rfl)
 try dsimp only
 go_wp2_with fail
 refine(afW r.history.a r.history.cap 108 16 d.history (fun h=>(h.length:Int) == 16) _ ag6 (he.history.later (ag hB hb8)) (fun y t p _ _=>ag5 _ _ _ _)).mono ?_
 rintro e w99 ⟨rfl,hy⟩
 try dsimp only
 go_wp2_with fail
 go_ret
 exact⟨by rw[HN.out];rfl,ag (ag hB hb8) hy⟩
end Go.Proofs.YtaghcadlgbnbdaaGreatDoor
namespace Go.WW
end Go.WW
namespace Go.Proofs.YtaghcadlgbnbdaaGreatDoor
open Go.RowKit Go.WW
end Go.Proofs.YtaghcadlgbnbdaaGreatDoor
namespace Go.WW
open Go.RowKit
def ag8(d:Entry)(p:ah)(s:Bool)(now:Int):Int:=if s then 0 else min (countOf d p now+1) 65535
def ag9(d:Entry)(s:Bool)(now:Int):Int:=if s then d.iw else now
def aha(d:Entry)(s:Bool)(now:Int):Int:=if s then now else d.jw
def aqV(d:Entry)(p:ah)(s:Bool)(now:Int):Entry:={d with fails:=ag8 d p s now,iw:=ag9 d s now,jw:=aha d s now}
def Bg:Sl:=⟨none,0⟩
def eX:aI:=⟨Bg,Bg,Bg,Bg,Bg,Bg⟩
def ed:Entry:=⟨⟨[],⟨#[]⟩⟩,[],0,0,[],⟨#[]⟩,0,0,0,0,0,0,0,[],[],[]⟩
theorem Bh:ae eX ed=#[.slice none 0 0,.string ⟨#[]⟩,.slice none 0 0,.int .u32 0,.int .i64 0,.slice none 0 0,.string ⟨#[]⟩,.int .i64 0,.int .i64 0,.int .i64 0,.int .i64 0,.int .i64 0,.int .i64 0,.int .i64 0,.slice none 0 0,.slice none 0 0,.slice none 0 0]:=rfl
def aqW(w:World)(d:Entry)(no:Int)(e:Ending)(w':World):Prop:=∃r,e=.returned (.tuple #[.agg (ae r d),.int .i64 no])∧Below w.heap.size w w'∧aZ w' (fresh w.heap.size w') (fun x=>bz x r d)
end Go.WW
namespace Go.Proofs.YtaghcadlgbnbdaaGreatDoor
open Go.RowKit Go.WW
theorem ahb(w:World):(mW 32 #[]).run Tryz.prog w=.ok (.value (.agg (ae eX ed))) w:=by kernel_rfl
attribute [go_sem] ahb
end Go.Proofs.YtaghcadlgbnbdaaGreatDoor
