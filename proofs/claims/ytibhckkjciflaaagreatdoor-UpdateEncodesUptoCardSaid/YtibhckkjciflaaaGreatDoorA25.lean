/- A part of the proof. -/
import Derived.Test.YtibhckkjciflaaaGreatDoorA23
import Derived.Test.YtibhckkjciflaaaGreatDoorA24
import Derived.Shelf.Slices.Equal
import Derived.Shelf.Slices.Empties2
import Derived.Shelf.Bytes.Small
import Derived.Test.YtibhckkjciflaaaGreatDoorProg
import Derived.Test.YtibhckkjciflaaaGreatDoorA14
import Derived.Test.YtibhckkjciflaaaGreatDoorA16
import Derived.Test.YtibhckkjciflaaaGreatDoorA22
import Derived.Test.YtibhckkjciflaaaGreatDoorA17
import Derived.Test.YtibhckkjciflaaaGreatDoorA18
set_option maxRecDepth 100000
set_option maxHeartbeats 4000000
namespace Go.WW
open Go.RowKit
theorem Sv(i t m k:Int)(s:Sl)(n:aG)(r:aC)(d:Entry)(q:aO)(pn:ByteArray)(f a b:Int):(aj i t m k s n r d q pn f a b)[0]?=some (.int .i64 i):=by simp[aj]
theorem aew(i t m k:Int)(s:Sl)(n:aG)(r:aC)(d:Entry)(q:aO)(pn:ByteArray)(f a b:Int)(h:0<(aj i t m k s n r d q pn f a b).size):(aj i t m k s n r d q pn f a b)[0]=.int .i64 i:=by have:=Sv i t m k s n r d q pn f a b;rw[Array.getElem?_eq_getElem h]at this;exact Option.some.inj this
theorem Sz(i t m k:Int)(s:Sl)(n:aG)(r:aC)(d:Entry)(q:aO)(pn:ByteArray)(f a b:Int):(aj i t m k s n r d q pn f a b)[1]?=some (.int .i64 t):=by simp[aj]
theorem aex(i t m k:Int)(s:Sl)(n:aG)(r:aC)(d:Entry)(q:aO)(pn:ByteArray)(f a b:Int)(h:1<(aj i t m k s n r d q pn f a b).size):(aj i t m k s n r d q pn f a b)[1]=.int .i64 t:=by have:=Sz i t m k s n r d q pn f a b;rw[Array.getElem?_eq_getElem h]at this;exact Option.some.inj this
theorem SB(i t m k:Int)(s:Sl)(n:aG)(r:aC)(d:Entry)(q:aO)(pn:ByteArray)(f a b:Int):(aj i t m k s n r d q pn f a b)[2]?=some (.int .i64 m):=by simp[aj]
theorem aey(i t m k:Int)(s:Sl)(n:aG)(r:aC)(d:Entry)(q:aO)(pn:ByteArray)(f a b:Int)(h:2<(aj i t m k s n r d q pn f a b).size):(aj i t m k s n r d q pn f a b)[2]=.int .i64 m:=by have:=SB i t m k s n r d q pn f a b;rw[Array.getElem?_eq_getElem h]at this;exact Option.some.inj this
theorem SC(i t m k:Int)(s:Sl)(n:aG)(r:aC)(d:Entry)(q:aO)(pn:ByteArray)(f a b:Int):(aj i t m k s n r d q pn f a b)[3]?=some (.int .i64 k):=by simp[aj]
theorem aez(i t m k:Int)(s:Sl)(n:aG)(r:aC)(d:Entry)(q:aO)(pn:ByteArray)(f a b:Int)(h:3<(aj i t m k s n r d q pn f a b).size):(aj i t m k s n r d q pn f a b)[3]=.int .i64 k:=by have:=SC i t m k s n r d q pn f a b;rw[Array.getElem?_eq_getElem h]at this;exact Option.some.inj this
theorem SE(i t m k:Int)(s:Sl)(n:aG)(r:aC)(d:Entry)(q:aO)(pn:ByteArray)(f a b:Int):(aj i t m k s n r d q pn f a b)[34]?=some (.int .i64 f):=by simp[aj]
theorem aeA(i t m k:Int)(s:Sl)(n:aG)(r:aC)(d:Entry)(q:aO)(pn:ByteArray)(f a b:Int)(h:34<(aj i t m k s n r d q pn f a b).size):(aj i t m k s n r d q pn f a b)[34]=.int .i64 f:=by have:=SE i t m k s n r d q pn f a b;rw[Array.getElem?_eq_getElem h]at this;exact Option.some.inj this
theorem SG(i t m k:Int)(s:Sl)(n:aG)(r:aC)(d:Entry)(q:aO)(pn:ByteArray)(f a b:Int):(aj i t m k s n r d q pn f a b)[35]?=some (.int .i64 a):=by simp[aj]
theorem aeB(i t m k:Int)(s:Sl)(n:aG)(r:aC)(d:Entry)(q:aO)(pn:ByteArray)(f a b:Int)(h:35<(aj i t m k s n r d q pn f a b).size):(aj i t m k s n r d q pn f a b)[35]=.int .i64 a:=by have:=SG i t m k s n r d q pn f a b;rw[Array.getElem?_eq_getElem h]at this;exact Option.some.inj this
theorem SH(i t m k:Int)(s:Sl)(n:aG)(r:aC)(d:Entry)(q:aO)(pn:ByteArray)(f a b:Int):(aj i t m k s n r d q pn f a b)[36]?=some (.int .i64 b):=by simp[aj]
theorem aeC(i t m k:Int)(s:Sl)(n:aG)(r:aC)(d:Entry)(q:aO)(pn:ByteArray)(f a b:Int)(h:36<(aj i t m k s n r d q pn f a b).size):(aj i t m k s n r d q pn f a b)[36]=.int .i64 b:=by have:=SH i t m k s n r d q pn f a b;rw[Array.getElem?_eq_getElem h]at this;exact Option.some.inj this
theorem aeD(i t m k:Int)(s:Sl)(n:aG)(r:aC)(d:Entry)(q:aO)(pn:ByteArray)(f a b:Int):mF (aj i t m k s n r d q pn f a b) 23 10=some (bZ q):=by kernel_rfl
attribute [go_sem] Sv aew Sz aex SB aey SC aez SE aeA SG aeB SH aeC aeD
def dO(x:aT):List (List UInt8):=
 if x.k=1 then [dP (jy x.d)]else if x.k=3 then [bM (jY x.q)]else if x.k=4 then [bM x.pn]else if x.k=2 then [bP x.n]else [bP x.n,aA x.f.toNat,bf x.a.toNat,bf x.b.toNat]
def iE(x:aT):List (List UInt8):=[aA x.i.toNat,aA x.t.toNat,bf x.m.toNat,aA x.k.toNat]++dO x
def qy(x:aT):List UInt8:=jT (iE x)
structure wM(x:aT):Prop where
 i:1≤x.i∧x.i≤1099511627776
 t:1≤x.t∧x.t≤2147483648
 m:0≤x.m∧x.m≤1099511627776
 k:1≤x.k∧x.k≤5
 put:x.k=1→fV x.d=true
 rem:x.k=2→aY x.n=true
 BH:x.k=3→eX x.q=true
 J3:x.k=4→x.pn.size≤32
 touch:x.k=5→aY x.n=true∧(0≤x.f∧x.f≤65535)∧(0≤x.a∧x.a≤1099511627776)∧(0≤x.b∧x.b≤1099511627776)
theorem J4{p:aO}(h:JZ p):(jY p).size≤300:=by
 obtain⟨f0,f1,f2,f3,f4,f5,f6,f7,f8,f9⟩:=h
 have d1:=iI f1
 have d2:=iI f2
 have d3:=iI f3
 have d4:=iI f4
 have d5:=iI f5
 have d6:=iI f6
 have d7:=iI f7
 have d8:=iI f8
 have d9:=iI f9
 have step:∀(s l d:ByteArray) (n:Nat),s.size≤n→l.size≤10→d.size≤13→((s++l)++d).size≤n+23:=fun s l d n h1 h2 h3=>by
  rw[ByteArray.size_append,ByteArray.size_append];omega
 unfold jY
 exact Nat.le_trans (step _ _ _ _ (step _ _ _ _ (step _ _ _ _ (step _ _ _ _ (step _ _ _ _ (step _ _ _ _ (step _ _ _ _ (step _ _ _ _ (step _ _ _ _ f0 (by decide) d1) (by decide) d2) (by decide) d3) (by decide) d4) (by decide) d5) (by decide) d6) (by decide) d7) (by decide) d8) (by decide) d9) (by decide)
theorem ET{x:aT}(h:wM x)(ha:0≤x.d.attrs):(∀y∈dO x,y.length≤416090)∧(dO x).length≤4∧0<(dO x).length:=by
 rcases(show x.k=1∨x.k=2∨x.k=3∨x.k=4∨x.k=5 by have:=h.k;omega)with hk|hk|hk|hk|hk
 ·have e:=IY (Ee (h.put hk) ha)
  have e2:=tN (jy x.d)
  simp only[dO,hk,if_true]
  refine⟨fun y hy=>?_,by simp,by simp⟩
  simp only[List.mem_cons,List.not_mem_nil,or_false]at hy
  subst hy;omega
 ·have e:=qW (h.rem hk)
  have:dO x=[bP x.n]:=by unfold dO;simp[hk]
  rw[this]
  refine⟨fun y hy=>?_,by simp,by simp⟩
  simp only[List.mem_cons,List.not_mem_nil,or_false]at hy
  subst hy;omega
 ·have e:=J4 (EP (h.BH hk))
  have e2:=qU (jY x.q)
  have:dO x=[bM (jY x.q)]:=by unfold dO;simp[hk]
  rw[this]
  refine⟨fun y hy=>?_,by simp,by simp⟩
  simp only[List.mem_cons,List.not_mem_nil,or_false]at hy
  subst hy;omega
 ·have e:=h.J3 hk
  have e2:=qU x.pn
  have:dO x=[bM x.pn]:=by unfold dO;simp[hk]
  rw[this]
  refine⟨fun y hy=>?_,by simp,by simp⟩
  simp only[List.mem_cons,List.not_mem_nil,or_false]at hy
  subst hy;omega
 ·obtain⟨h1,h2,h3,h4⟩:=h.touch hk
  have e:=qW h1
  have e2:=jd (v:=x.f.toNat) (k:=3) (by decide) (by simp;omega)
  have e3:=nM x.a.toNat
  have e4:=nM x.b.toNat
  have:dO x=[bP x.n,aA x.f.toNat,bf x.a.toNat,bf x.b.toNat]:=by unfold dO;simp[hk]
  rw[this]
  refine⟨fun y hy=>?_,by simp,by simp⟩
  simp only[List.mem_cons,List.not_mem_nil,or_false]at hy
  rcases hy with rfl|rfl|rfl|rfl<;>omega
theorem SK:∀(l:List (List UInt8)) (n:Nat),(bU n l).flatten.length≤l.flatten.length+5*l.length
 | [],_=>by simp[bU]
 |y::l,n=>by
  have h1:=SK l (n+1)
  have h2:=oH (n:=n) (m:=y.length) (c:=y) (Nat.le_refl _)
  rw[bU,List.flatten_cons,List.length_append,List.flatten_cons,List.length_append,List.length_cons]
  omega
theorem aeE{x:aT}(h:wM x)(ha:0≤x.d.attrs):(dO x).flatten.length≤416500:=by
 have hl:=(ET h ha).1
 rcases(show x.k=1∨x.k=2∨x.k=3∨x.k=4∨x.k=5 by have:=h.k;omega)with hk|hk|hk|hk|hk
 ·have e:dO x=[dP (jy x.d)]:=by unfold dO;simp[hk]
  have:=hl _ (by rw[e];exact List.mem_cons_self)
  rw[e,List.flatten_cons,List.flatten_nil,List.append_nil];omega
 ·have e:dO x=[bP x.n]:=by unfold dO;simp[hk]
  have:=hl _ (by rw[e];exact List.mem_cons_self)
  rw[e,List.flatten_cons,List.flatten_nil,List.append_nil];omega
 ·have e:dO x=[bM (jY x.q)]:=by unfold dO;simp[hk]
  have:=hl _ (by rw[e];exact List.mem_cons_self)
  rw[e,List.flatten_cons,List.flatten_nil,List.append_nil];omega
 ·have e:dO x=[bM x.pn]:=by unfold dO;simp[hk]
  have:=hl _ (by rw[e];exact List.mem_cons_self)
  rw[e,List.flatten_cons,List.flatten_nil,List.append_nil];omega
 ·obtain⟨h1,h2,h3,h4⟩:=h.touch hk
  have e1:=qW h1
  have e2:=jd (v:=x.f.toNat) (k:=3) (by decide) (by simp;omega)
  have e3:=nM x.a.toNat
  have e4:=nM x.b.toNat
  have e:dO x=[bP x.n,aA x.f.toNat,bf x.a.toNat,bf x.b.toNat]:=by unfold dO;simp[hk]
  rw[e]
  simp only[List.flatten_cons,List.flatten_nil,List.append_nil,List.length_append]
  omega
theorem SL{x:aT}(h:wM x)(ha:0≤x.d.attrs):(bU 0 (iE x)).flatten.length≤1000000:=by
 have h1:=SK (iE x) 0
 have h2:=aeE h ha
 have h3:=(ET h ha).2.1
 have f1:=h.i
 have f2:=h.t
 have f4:=h.k
 have e1:=jd (v:=x.i.toNat) (k:=7) (by decide) (by simp;omega)
 have e2:=jd (v:=x.t.toNat) (k:=7) (by decide) (by simp;omega)
 have e3:=nM x.m.toNat
 have e4:=jd (v:=x.k.toNat) (k:=7) (by decide) (by simp;omega)
 have e5:(iE x).flatten.length=(aA x.i.toNat).length+((aA x.t.toNat).length+((bf x.m.toNat).length+((aA x.k.toNat).length+(dO x).flatten.length))):=by
  unfold iE
  simp only[List.cons_append,List.nil_append,List.flatten_cons,List.length_append]
 have e6:(iE x).length=4+(dO x).length:=by unfold iE;simp;omega
 omega
end Go.WW
namespace Go.Proofs
open Go.Shelf
def Tryz.lays193_ren:Go.Shelf.Ren:=⟨fun|193=>96|n=>n,fun|31=>23|9=>9|4=>4|3=>3|0=>0|n=>n,fun|n=>n⟩
theorem Tryz.lays193:Go.Proofs.Lays.n193 Tryz.prog Tryz.lays193_ren:={
 mixed:=by kernel_rfl
 f193:=Tryz.func96.trans (congrArg some (by kernel_rfl))
 t0:=Tryz.underlying0
 a0:=Tryz.isAgg0
 z0:=Tryz.sizeOf0
 v0:=Tryz.zeroValue0
 t3:=Tryz.underlying3
 a3:=Tryz.isAgg3
 z3:=Tryz.sizeOf3
 v3:=Tryz.zeroValue3
 t4:=Tryz.underlying4
 a4:=Tryz.isAgg4
 z4:=Tryz.sizeOf4
 v4:=Tryz.zeroValue4
 t9:=Tryz.underlying9
 a9:=Tryz.isAgg9
 z9:=Tryz.sizeOf9
 v9:=Tryz.zeroValue9
 t31:=Tryz.underlying23
 a31:=Tryz.isAgg23
 z31:=Tryz.sizeOf23
 v31:=Tryz.zeroValue23}
open Go.RowKit Go.Lib in
theorem Tryz.slices_Equal_string(b1 o1 n c b2 o2 m d:Nat)(xs ys:List ByteArray)(w:World)(hx:n≤xs.length)(hy:m≤ys.length)(hbig:n≤9223372036854775807)(hbig2:m≤9223372036854775807)(hc1:∀j,j<xs.length→w.cell? ⟨b1,o1+j,none⟩=some (.string (xs.getD j ByteArray.empty)))(hc2:∀j,j<ys.length→w.cell? ⟨b2,o2+j,none⟩=some (.string (ys.getD j ByteArray.empty))) :
  Calls Tryz.prog 96 #[.slice (some ⟨b1,o1,none⟩) n c,.slice (some ⟨b2,o2,none⟩) m d] w fun e w'=>e=.returned (.bool (decide (xs.take n=ys.take m)))∧∃q,w'=w.drewN q:=Any.slices_Equal_string Tryz.lays193 b1 o1 n c b2 o2 m d xs ys w hx hy hbig hbig2 hc1 hc2
open Go.RowKit Go.Lib in
theorem Tryz.slices_Equal_string_empty(a1 a2:Option Addr)(c m d:Nat)(w:World)(hbig2:m≤9223372036854775807) :
  Calls Tryz.prog 96 #[.slice a1 0 c,.slice a2 m d] w fun e w'=>e=.returned (.bool (decide (m=0)))∧w'=w:=Any.slices_Equal_string_empty Tryz.lays193 a1 a2 c m d w hbig2
open Go.RowKit Go.Lib in
theorem Tryz.slices_Equal_string_lens(a1 a2:Option Addr)(n c m d:Nat)(w:World)(hnm:n≠m) :
  Calls Tryz.prog 96 #[.slice a1 n c,.slice a2 m d] w fun e w'=>e=.returned (.bool false)∧w'=w:=Any.slices_Equal_string_lens Tryz.lays193 a1 a2 n c m d w hnm
def Tryz.lays115_ren:Go.Shelf.Ren:=⟨fun|115=>66|n=>n,fun|37=>41|4=>4|9=>9|5=>5|n=>n,fun|n=>n⟩
end Go.Proofs
namespace Go.Proofs.YtibhckkjciflaaaGreatDoor
open Go.RowKit Go.WW
theorem aeF(a1 a2:Option Addr)(c d:Nat)(xs ys:List ByteArray)(w:World)(h1:lK w a1 xs)(h2:lK w a2 ys):Calls Tryz.prog 96 #[.slice a1 xs.length c,.slice a2 ys.length d] w fun e w'=>e=.returned (.bool (decide (xs=ys)))∧Below w.heap.size w w':=by
 have l1:xs.length≤4294967000:=h1.1
 have l2:ys.length≤4294967000:=h2.1
 by_cases hn:xs.length=ys.length
 ·by_cases h0:xs.length=0
  ·obtain rfl:xs=[]:=List.eq_nil_of_length_eq_zero h0
   obtain rfl:ys=[]:=List.eq_nil_of_length_eq_zero (by simpa using hn.symm)
   refine(Tryz.slices_Equal_string_empty a1 a2 c 0 d w (by omega)).mono ?_
   rintro e w' ⟨rfl,rfl⟩
   exact⟨by simp,Below.refl _ _⟩
  ·obtain⟨b1,o1,rfl,-,-⟩:=h1.get 0 (by omega)
   obtain⟨b2,o2,rfl,-,-⟩:=h2.get 0 (by omega)
   refine(Tryz.slices_Equal_string b1 o1 xs.length c b2 o2 ys.length d xs ys w (Nat.le_refl _) (Nat.le_refl _) (by omega) (by omega) (fun j hj=>?_) (fun j hj=>?_)).mono ?_
   ·rw[(h1.at j hj).1,List.getD_eq_getElem?_getD,List.getElem?_eq_getElem hj];rfl
   ·rw[(h2.at j hj).1,List.getD_eq_getElem?_getD,List.getElem?_eq_getElem hj];rfl
   ·rintro e w' ⟨rfl,q,rfl⟩
    rw[List.take_length,List.take_length]
    exact⟨rfl,below_drewN (Below.refl _ _) q⟩
 ·refine(Tryz.slices_Equal_string_lens a1 a2 xs.length c ys.length d w hn).mono ?_
  rintro e w' ⟨rfl,rfl⟩
  have:decide (xs=ys)=false:=by simp;intro e;exact hn (by rw[e])
  exact⟨by rw[this],Below.refl _ _⟩
theorem EU(s t:Sl)(p q:aG)(w:World)(hp:gu w s p)(hq:gu w t q):Calls Tryz.prog 39 #[.agg (aJ s p),.agg (aJ t q)] w fun e w'=>e=.returned (.bool (bH p q))∧Below w.heap.size w w':=by
 have hB:Below w.heap.size w ((w.alloc (.cells (aJ s p) 25)).alloc (.cells (aJ t q) 25)):=((Below.refl _ _).alloc (Nat.le_refl _) _).alloc (by simp) _
 by_cases hr:p.aQ=q.aQ
 ·have hr':=str_eq _ _ hr
  have HD:=Lib.hid (show bH p q=decide (p.parts=q.parts) by simp[bH,hr])
  clear hr
  rw[HD.out]
  go_enter Tryz.func39,Tryz.ntmps39
  go_wp2_with fail
  refine(aeF _ _ _ _ _ _ _ (hp.later hB).1 (hq.later hB).1).mono ?_
  rintro e w1 ⟨rfl,hb1⟩
  have HB:=Lib.hid (af hB hb1)
  go_wp2_with fail
  go_ret
  exact⟨rfl,HB.out⟩
 ·have hr':=Am _ _ hr
  have HN:=Lib.hid (OU hr);clear hr
  rw[HN.out]
  go_enter Tryz.func39,Tryz.ntmps39
  go_wp2_with fail
  go_ret
  exact⟨rfl,hB⟩
end Go.Proofs.YtibhckkjciflaaaGreatDoor
namespace Go.WW
end Go.WW
namespace Go.Proofs.YtibhckkjciflaaaGreatDoor
open Go.RowKit Go.WW
theorem aeG(cap:Nat)(w:World):(convert 41 9 (.slice none 0 cap)).run Tryz.prog w=.ok (.string ⟨#[]⟩) w:=by kernel_rfl
theorem aeH(ad:Addr)(cap:Nat)(w:World):(convert 41 9 (.slice (some ad) 0 cap)).run Tryz.prog w=.ok (.string ⟨#[]⟩) w:=by kernel_rfl
theorem uH(a:Option Addr)(cap:Nat)(l:List UInt8)(w:World)(h:BytesAt w a l):(convert 41 9 (.slice a l.length cap)).run Tryz.prog w=.ok (.string ⟨l.toArray⟩) w:=by
 by_cases h0:l.length=0
 ·obtain rfl:l=[]:=List.eq_nil_of_length_eq_zero h0
  cases a with
  |none=>exact aeG cap w
  |some ad=>exact aeH ad cap w
 ·obtain⟨b,o,rfl,-⟩:=h.get 0 (by omega)
  exact I8 w 41 9 5 Tryz.underlying41 Tryz.underlying5 Tryz.underlying9 b o cap l (fun i hi=>h.at i hi)
theorem SN(a1 a2:Option Addr)(c d:Nat)(xs ys:List UInt8)(w:World)(h1:BytesAt w a1 xs)(h2:BytesAt w a2 ys):Calls Tryz.prog 66 #[.slice a1 xs.length c,.slice a2 ys.length d] w fun e w'=>e=.returned (.bool (decide (xs=ys)))∧Below w.heap.size w w':=by
 have k1:=uH a1 c xs w h1
 have k2:=uH a2 d ys w h2
 obtain⟨S1,hS1⟩:∃S,S=(ByteArray.mk xs.toArray):=⟨_,rfl⟩
 obtain⟨S2,hS2⟩:∃S,S=(ByteArray.mk ys.toArray):=⟨_,rfl⟩
 rw[←hS1]at k1
 rw[←hS2]at k2
 have HD:=Lib.hid (show(S1.toList == S2.toList)=decide (xs=ys) by
  rw[hS1,hS2,ByteArray.toList_eq,ByteArray.toList_eq]
  by_cases h:xs=ys
  ·subst h;simp
  ·simp[h])
 clear hS1 hS2
 rw[←HD.out]
 go_enter Tryz.func66,Tryz.ntmps66
 go_wp2_with fail
 go_ret
 exact⟨rfl,Below.refl _ _⟩
def sameKey(a b:Key):Bool:=(a.profile == b.profile)&&((a.version == b.version)&&decide (a.bytes=b.bytes))
theorem SQ(s t:Sl)(p q:Key)(w:World)(hp:iR w s p)(hq:iR w t q):Calls Tryz.prog 147 #[.agg (bG s p),.agg (bG t q)] w fun e w'=>e=.returned (.bool (sameKey p q))∧Below w.heap.size w w':=by
 have hB:Below w.heap.size w ((w.alloc (.cells (bG s p) 151)).alloc (.cells (bG t q) 151)):=((Below.refl _ _).alloc (Nat.le_refl _) _).alloc (by simp) _
 have k1:=BytesAt.later hB hp
 have k2:=BytesAt.later hB hq
 cases h1:(p.profile == q.profile)
 ·have HN:=Lib.hid (show sameKey p q=false by simp[sameKey,h1])
  rw[HN.out]
  go_enter Tryz.func147,Tryz.ntmps147
  go_wp2_with fail
  go_ret
  exact⟨rfl,hB⟩
 cases h2:(p.version == q.version)
 ·have HN:=Lib.hid (show sameKey p q=false by simp[sameKey,h2])
  rw[HN.out]
  go_enter Tryz.func147,Tryz.ntmps147
  go_wp2_with fail
  go_ret
  exact⟨rfl,hB⟩
 ·have HN:=Lib.hid (show sameKey p q=decide (p.bytes=q.bytes) by simp[sameKey,h1,h2])
  rw[HN.out]
  go_enter Tryz.func147,Tryz.ntmps147
  go_wp2_with fail
  refine(SN _ _ _ _ _ _ _ k1 k2).mono ?_
  rintro e w1 ⟨rfl,hb1⟩
  have HB:=Lib.hid (af hB hb1)
  go_wp2_with fail
  go_ret
  exact⟨rfl,HB.out⟩
end Go.Proofs.YtibhckkjciflaaaGreatDoor
namespace Go.WW
open Go.RowKit
def fO(a b:List UInt8):Bool:=decide (a=b)
def gm{α:Type}(eq:α→α→Bool):List α→List α→Bool
 | [],[]=>true
 |x::l,y::m=>eq x y&&gm eq l m
 |_,_=>false
theorem rV{α:Type}{eq:α→α→Bool}:∀{a b:List α},a.length≠b.length→gm eq a b=false
 | [],[],h=>absurd rfl h
 | [],_::_,_=>rfl
 |_::_,[],_=>rfl
 |x::l,y::m,h=>by rw[gm,rV (a:=l) (b:=m) (fun e=>h (by simp[e]))];simp
theorem rW{α:Type}{eq:α→α→Bool}:∀{a b:List α} (k:Nat) (ha:k<a.length) (hb:k<b.length),eq a[k] b[k]=false→gm eq a b=false
 | [],_,_,ha,_,_=>by simp at ha
 |_::_,[],_,_,hb,_=>by simp at hb
 |x::l,y::m,0,_,_,h=>by rw[gm];simp at h;simp[h]
 |x::l,y::m,k+1,ha,hb,h=>by rw[gm,rW k (by simpa using ha) (by simpa using hb) (by simpa using h)];simp
theorem rX{α:Type}{eq:α→α→Bool}:∀{a b:List α},a.length=b.length→(∀k (ha:k<a.length) (hb:k<b.length),eq a[k] b[k]=true)→gm eq a b=true
 | [],[],_,_=>rfl
 | [],_::_,h,_=>by simp at h
 |_::_,[],h,_=>by simp at h
 |x::l,y::m,h,hk=>by
  rw[gm,rX (a:=l) (b:=m) (by simpa using h) (fun k ha hb=>hk (k+1) (by simpa using ha) (by simpa using hb))]
  have:=hk 0 (by simp) (by simp)
  simpa using this
end Go.WW
namespace Go.Proofs.YtibhckkjciflaaaGreatDoor
open Go.RowKit Go.WW
theorem SS(a1 a2:Option Addr)(c d:Nat)(xs ys:List UInt8)(w:World)(h1:BytesAt w a1 xs)(h2:BytesAt w a2 ys):Calls Tryz.prog 66 #[.slice a1 xs.length c,.slice a2 ys.length d] w fun e w'=>e=.returned (.bool (fO xs ys))∧Below w.heap.size w w':=SN a1 a2 c d xs ys w h1 h2
theorem J5(a1 a2:Option Addr)(c d:Nat)(xs ys:List aG)(w:World)(h1:fH w a1 xs)(h2:fH w a2 ys):Calls Tryz.prog 97 #[.slice a1 xs.length c,.slice a2 ys.length d,.func (.func 39) #[] #[]] w fun e w'=>e=.returned (.bool (gm bH xs ys))∧Below w.heap.size w w':=by
 have l1:xs.length≤4294967000:=h1.1
 have l2:ys.length≤4294967000:=h2.1
 by_cases hn:xs.length=ys.length
 ·have hne:((xs.length:Int) != (ys.length:Int))=false:=by simp[hn]
  by_cases h0:xs.length=0
  ·obtain rfl:xs=[]:=List.eq_nil_of_length_eq_zero h0
   obtain rfl:ys=[]:=List.eq_nil_of_length_eq_zero (by simpa using hn.symm)
   go_enter Tryz.func97,Tryz.ntmps97
   go_wp2_with fail
   refine wp_loop_rounds 1 ?_
   rw[rounds_succ]
   go_wp2_with fail
   go_ret
   exact⟨rfl,Below.refl _ _⟩
  rcases cu.addr h1 with e|⟨b1,o1,rfl,hb1⟩
  ·exact absurd e h0
  rcases cu.addr h2 with e|⟨b2,o2,rfl,hb2⟩
  ·exact absurd (hn.trans e) h0
  have HN:=Lib.hid hn
  clear hn h0
  go_enter Tryz.func97,Tryz.ntmps97
  go_wp2_with fail
  go_loopw [15] (fun i wr=>Below w.heap.size w wr∧∃k:Nat,k≤xs.length∧i=.int .i64 k∧Hid (∀j (ha:j<xs.length) (hb:j<ys.length),j<k→bH xs[j] ys[j]=true)) (fun i _=>xs.length-(intOf i).toNat)
  case atStart=>exact⟨Below.refl _ _,0,Nat.zero_le _,rfl,fun j _ _ h=>absurd h (Nat.not_lt_zero _)⟩
  case round=>
   obtain⟨hbr,k,hk,rfl,hall⟩:=hrel
   by_cases hlt:k<xs.length
   ·have hlt2:k<ys.length:=by have:=HN.out;omega
    have wO:(k:Int)<(ys.length:Int):=by omega
    obtain⟨t1,hc1,hp1⟩:=h1.at k hlt
    obtain⟨t2,hc2,hp2⟩:=h2.at k hlt2
    obtain⟨hcc,ax,hrr⟩:=aK hbr
    have hw1:=hb1
    have hw2:=hb2
    cases he:bH xs[k] ys[k]
    ·have HF:=Lib.hid (rW (eq:=bH) k hlt hlt2 he)
     go_wp2_with fail
     refine dZ hbr (by kernel_rfl) (by kernel_rfl) ?_
     repeat (go_big_quiet_step ((go_at_call 39;rename_i xw;exact Calls.iF (he▸EU _ _ _ _ _ (hp1.later (by exact xw.b)) (hp2.later (by exact xw.b))))))
     refine wpQuiet_nil ?_
     intro w2 aZ
     go_wp2_with fail
     go_ret
     exact⟨by rw[HF.out];rfl,aZ⟩
    ·have HS:=Lib.hid (show ∀j (ha:j<xs.length) (hb:j<ys.length),j<k+1→bH xs[j] ys[j]=true from fun j ha hb hj=>by
      by_cases e:j=k
      ·subst e;exact he
      ·exact hall.out j ha hb (by omega))
     go_wp2_with fail
     refine dZ hbr (by kernel_rfl) (by kernel_rfl) ?_
     repeat (go_big_quiet_step ((go_at_call 39;rename_i xw;exact Calls.iF (he▸EU _ _ _ _ _ (hp1.later (by exact xw.b)) (hp2.later (by exact xw.b))))))
     refine wpQuiet_nil ?_
     intro w2 aZ
     go_wp2_with fail
     go_roundw
     case rel=>exact⟨aZ,k+1,by omega,by go_num,HS.out⟩
     case measure=>simp[intOf];omega
   ·have HS:=Lib.hid (rX (eq:=bH) HN.out (fun j ha hb=>hall.out j ha hb (by omega)))
    go_wp2_with fail
    go_ret
    exact⟨by rw[HS.out];rfl,hbr⟩
 ·have hne:((xs.length:Int) != (ys.length:Int))=true:=by simp;omega
  have HF:=Lib.hid (rV (eq:=bH) hn)
  clear hn
  go_enter Tryz.func97,Tryz.ntmps97
  go_wp2_with fail
  go_ret
  exact⟨by rw[HF.out];rfl,Below.refl _ _⟩
theorem aeI(a1 a2:Option Addr)(c d:Nat)(xs ys:List Key)(w:World)(h1:jw w a1 xs)(h2:jw w a2 ys):Calls Tryz.prog 146 #[.slice a1 xs.length c,.slice a2 ys.length d,.func (.func 147) #[] #[]] w fun e w'=>e=.returned (.bool (gm sameKey xs ys))∧Below w.heap.size w w':=by
 have l1:xs.length≤4294967000:=h1.1
 have l2:ys.length≤4294967000:=h2.1
 by_cases hn:xs.length=ys.length
 ·have hne:((xs.length:Int) != (ys.length:Int))=false:=by simp[hn]
  by_cases h0:xs.length=0
  ·obtain rfl:xs=[]:=List.eq_nil_of_length_eq_zero h0
   obtain rfl:ys=[]:=List.eq_nil_of_length_eq_zero (by simpa using hn.symm)
   go_enter Tryz.func146,Tryz.ntmps146
   go_wp2_with fail
   refine wp_loop_rounds 1 ?_
   rw[rounds_succ]
   go_wp2_with fail
   go_ret
   exact⟨rfl,Below.refl _ _⟩
  rcases cu.addr h1 with e|⟨b1,o1,rfl,hb1⟩
  ·exact absurd e h0
  rcases cu.addr h2 with e|⟨b2,o2,rfl,hb2⟩
  ·exact absurd (hn.trans e) h0
  have HN:=Lib.hid hn
  clear hn h0
  go_enter Tryz.func146,Tryz.ntmps146
  go_wp2_with fail
  go_loopw [15] (fun i wr=>Below w.heap.size w wr∧∃k:Nat,k≤xs.length∧i=.int .i64 k∧Hid (∀j (ha:j<xs.length) (hb:j<ys.length),j<k→sameKey xs[j] ys[j]=true)) (fun i _=>xs.length-(intOf i).toNat)
  case atStart=>exact⟨Below.refl _ _,0,Nat.zero_le _,rfl,fun j _ _ h=>absurd h (Nat.not_lt_zero _)⟩
  case round=>
   obtain⟨hbr,k,hk,rfl,hall⟩:=hrel
   by_cases hlt:k<xs.length
   ·have hlt2:k<ys.length:=by have:=HN.out;omega
    have wO:(k:Int)<(ys.length:Int):=by omega
    obtain⟨t1,hc1,hp1⟩:=h1.at k hlt
    obtain⟨t2,hc2,hp2⟩:=h2.at k hlt2
    obtain⟨hcc,ax,hrr⟩:=aK hbr
    have hw1:=hb1
    have hw2:=hb2
    cases he:sameKey xs[k] ys[k]
    ·have HF:=Lib.hid (rW (eq:=sameKey) k hlt hlt2 he)
     go_wp2_with fail
     refine dZ hbr (by kernel_rfl) (by kernel_rfl) ?_
     repeat (go_big_quiet_step ((go_at_call 147;rename_i xw;exact Calls.iF (he▸SQ _ _ _ _ _ (iR.later (by exact xw.b) hp1) (iR.later (by exact xw.b) hp2)))))
     refine wpQuiet_nil ?_
     intro w2 aZ
     go_wp2_with fail
     go_ret
     exact⟨by rw[HF.out];rfl,aZ⟩
    ·have HS:=Lib.hid (show ∀j (ha:j<xs.length) (hb:j<ys.length),j<k+1→sameKey xs[j] ys[j]=true from fun j ha hb hj=>by
      by_cases e:j=k
      ·subst e;exact he
      ·exact hall.out j ha hb (by omega))
     go_wp2_with fail
     refine dZ hbr (by kernel_rfl) (by kernel_rfl) ?_
     repeat (go_big_quiet_step ((go_at_call 147;rename_i xw;exact Calls.iF (he▸SQ _ _ _ _ _ (iR.later (by exact xw.b) hp1) (iR.later (by exact xw.b) hp2)))))
     refine wpQuiet_nil ?_
     intro w2 aZ
     go_wp2_with fail
     go_roundw
     case rel=>exact⟨aZ,k+1,by omega,by go_num,HS.out⟩
     case measure=>simp[intOf];omega
   ·have HS:=Lib.hid (rX (eq:=sameKey) HN.out (fun j ha hb=>hall.out j ha hb (by omega)))
    go_wp2_with fail
    go_ret
    exact⟨by rw[HS.out];rfl,hbr⟩
 ·have hne:((xs.length:Int) != (ys.length:Int))=true:=by simp;omega
  have HF:=Lib.hid (rV (eq:=sameKey) hn)
  clear hn
  go_enter Tryz.func146,Tryz.ntmps146
  go_wp2_with fail
  go_ret
  exact⟨by rw[HF.out];rfl,Below.refl _ _⟩
theorem aeJ(a1 a2:Option Addr)(c d:Nat)(xs ys:List (List UInt8))(w:World)(h1:dH w a1 xs)(h2:dH w a2 ys):Calls Tryz.prog 100 #[.slice a1 xs.length c,.slice a2 ys.length d,.func (.func 66) #[] #[]] w fun e w'=>e=.returned (.bool (gm fO xs ys))∧Below w.heap.size w w':=by
 have l1:xs.length≤4294967000:=h1.1
 have l2:ys.length≤4294967000:=h2.1
 by_cases hn:xs.length=ys.length
 ·have hne:((xs.length:Int) != (ys.length:Int))=false:=by simp[hn]
  by_cases h0:xs.length=0
  ·obtain rfl:xs=[]:=List.eq_nil_of_length_eq_zero h0
   obtain rfl:ys=[]:=List.eq_nil_of_length_eq_zero (by simpa using hn.symm)
   go_enter Tryz.func100,Tryz.ntmps100
   go_wp2_with fail
   refine wp_loop_rounds 1 ?_
   rw[rounds_succ]
   go_wp2_with fail
   go_ret
   exact⟨rfl,Below.refl _ _⟩
  rcases eu.addr h1 with e|⟨b1,o1,rfl,hb1⟩
  ·exact absurd e h0
  rcases eu.addr h2 with e|⟨b2,o2,rfl,hb2⟩
  ·exact absurd (hn.trans e) h0
  have HN:=Lib.hid hn
  clear hn h0
  go_enter Tryz.func100,Tryz.ntmps100
  go_wp2_with fail
  go_loopw [15] (fun i wr=>Below w.heap.size w wr∧∃k:Nat,k≤xs.length∧i=.int .i64 k∧Hid (∀j (ha:j<xs.length) (hb:j<ys.length),j<k→fO xs[j] ys[j]=true)) (fun i _=>xs.length-(intOf i).toNat)
  case atStart=>exact⟨Below.refl _ _,0,Nat.zero_le _,rfl,fun j _ _ h=>absurd h (Nat.not_lt_zero _)⟩
  case round=>
   obtain⟨hbr,k,hk,rfl,hall⟩:=hrel
   by_cases hlt:k<xs.length
   ·have hlt2:k<ys.length:=by have:=HN.out;omega
    have wO:(k:Int)<(ys.length:Int):=by omega
    obtain⟨t1,hc1,hp1⟩:=h1.at k hlt
    obtain⟨t2,hc2,hp2⟩:=h2.at k hlt2
    obtain⟨hcc,ax,hrr⟩:=aK hbr
    have hw1:=hb1
    have hw2:=hb2
    cases he:fO xs[k] ys[k]
    ·have HF:=Lib.hid (rW (eq:=fO) k hlt hlt2 he)
     go_wp2_with fail
     refine dZ hbr (by kernel_rfl) (by kernel_rfl) ?_
     repeat (go_big_quiet_step ((go_at_call 66;rename_i xw;exact Calls.iF (he▸SS _ _ _ _ _ _ _ (hp1.later (by exact xw.b)) (hp2.later (by exact xw.b))))))
     refine wpQuiet_nil ?_
     intro w2 aZ
     go_wp2_with fail
     go_ret
     exact⟨by rw[HF.out];rfl,aZ⟩
    ·have HS:=Lib.hid (show ∀j (ha:j<xs.length) (hb:j<ys.length),j<k+1→fO xs[j] ys[j]=true from fun j ha hb hj=>by
      by_cases e:j=k
      ·subst e;exact he
      ·exact hall.out j ha hb (by omega))
     go_wp2_with fail
     refine dZ hbr (by kernel_rfl) (by kernel_rfl) ?_
     repeat (go_big_quiet_step ((go_at_call 66;rename_i xw;exact Calls.iF (he▸SS _ _ _ _ _ _ _ (hp1.later (by exact xw.b)) (hp2.later (by exact xw.b))))))
     refine wpQuiet_nil ?_
     intro w2 aZ
     go_wp2_with fail
     go_roundw
     case rel=>exact⟨aZ,k+1,by omega,by go_num,HS.out⟩
     case measure=>simp[intOf];omega
   ·have HS:=Lib.hid (rX (eq:=fO) HN.out (fun j ha hb=>hall.out j ha hb (by omega)))
    go_wp2_with fail
    go_ret
    exact⟨by rw[HS.out];rfl,hbr⟩
 ·have hne:((xs.length:Int) != (ys.length:Int))=true:=by simp;omega
  have HF:=Lib.hid (rV (eq:=fO) hn)
  clear hn
  go_enter Tryz.func100,Tryz.ntmps100
  go_wp2_with fail
  go_ret
  exact⟨by rw[HF.out];rfl,Below.refl _ _⟩
def dW(a b:aW):Bool:=(a.version == b.version)&&(gm sameKey a.keys b.keys&&((a.bF.toList == b.bF.toList)&&((a.dm == b.dm)&&(a.created == b.created))))
theorem SV(s t:Sl)(p q:aW)(w:World)(hp:ig w s p)(hq:ig w t q):Calls Tryz.prog 99 #[.agg (aV s p),.agg (aV t q)] w fun e w'=>e=.returned (.bool (dW p q))∧Below w.heap.size w w':=by
 have hB:Below w.heap.size w ((w.alloc (.cells (aV s p) 49)).alloc (.cells (aV t q) 49)):=((Below.refl _ _).alloc (Nat.le_refl _) _).alloc (by simp) _
 have k1:=jw.later hB hp.1
 have k2:=jw.later hB hq.1
 cases h1:(p.version == q.version)
 ·have HN:=Lib.hid (show dW p q=false by simp[dW,h1])
  rw[HN.out]
  go_enter Tryz.func99,Tryz.ntmps99
  go_wp2_with fail
  go_ret
  exact⟨rfl,hB⟩
 have HC:=Lib.hid (aeI s.a t.a s.cap t.cap p.keys q.keys _ k1 k2)
 cases h2:gm sameKey p.keys q.keys
 ·have HN:=Lib.hid (show dW p q=false by simp[dW,h1,h2])
  rw[h2]at HC
  rw[HN.out]
  clear h2
  go_enter Tryz.func99,Tryz.ntmps99
  go_wp2_with fail
  refine HC.out.mono ?_
  rintro e w1 ⟨rfl,hb1⟩
  have HB:=Lib.hid (af hB hb1)
  go_wp2_with fail
  go_ret
  exact⟨rfl,HB.out⟩
 cases h3:(p.bF.toList == q.bF.toList)
 ·have HN:=Lib.hid (show dW p q=false by unfold dW;rw[h1,h2,h3];rfl)
  rw[h2]at HC
  rw[HN.out]
  clear h2
  go_enter Tryz.func99,Tryz.ntmps99
  go_wp2_with fail
  refine HC.out.mono ?_
  rintro e w1 ⟨rfl,hb1⟩
  have HB:=Lib.hid (af hB hb1)
  obtain⟨hcc,ax,hrr⟩:=aK hb1
  have hsz:w.heap.size+1<w1.heap.size:=by have:=hb1.size;simp at this;omega
  have hsz0:w.heap.size<w1.heap.size:=by omega
  go_wp2_with fail
  go_ret
  exact⟨rfl,HB.out⟩
 cases h4:(p.dm == q.dm)
 have HN:=Lib.hid (show dW p q=false by unfold dW;rw[h1,h2,h3,h4];rfl)
 rotate_left
 have HN:=Lib.hid (show dW p q=(p.created == q.created) by unfold dW;rw[h1,h2,h3,h4];rfl)
 rotate_left
 all_goals
  rw[h2]at HC
  rw[HN.out]
  clear h2
  go_enter Tryz.func99,Tryz.ntmps99
  go_wp2_with fail
  refine HC.out.mono ?_
  rintro e w1 ⟨rfl,hb1⟩
  have HB:=Lib.hid (af hB hb1)
  obtain⟨hcc,ax,hrr⟩:=aK hb1
  have hsz:w.heap.size+1<w1.heap.size:=by have:=hb1.size;simp at this;omega
  have hsz0:w.heap.size<w1.heap.size:=by omega
  go_wp2_with fail
  go_ret
  exact⟨rfl,HB.out⟩
theorem aeK(a1 a2:Option Addr)(c d:Nat)(xs ys:List aW)(w:World)(h1:kV w a1 xs)(h2:kV w a2 ys):Calls Tryz.prog 98 #[.slice a1 xs.length c,.slice a2 ys.length d,.func (.func 99) #[] #[]] w fun e w'=>e=.returned (.bool (gm dW xs ys))∧Below w.heap.size w w':=by
 have l1:xs.length≤4294967000:=h1.1
 have l2:ys.length≤4294967000:=h2.1
 by_cases hn:xs.length=ys.length
 ·have hne:((xs.length:Int) != (ys.length:Int))=false:=by simp[hn]
  by_cases h0:xs.length=0
  ·obtain rfl:xs=[]:=List.eq_nil_of_length_eq_zero h0
   obtain rfl:ys=[]:=List.eq_nil_of_length_eq_zero (by simpa using hn.symm)
   go_enter Tryz.func98,Tryz.ntmps98
   go_wp2_with fail
   refine wp_loop_rounds 1 ?_
   rw[rounds_succ]
   go_wp2_with fail
   go_ret
   exact⟨rfl,Below.refl _ _⟩
  rcases cu.addr h1 with e|⟨b1,o1,rfl,hb1⟩
  ·exact absurd e h0
  rcases cu.addr h2 with e|⟨b2,o2,rfl,hb2⟩
  ·exact absurd (hn.trans e) h0
  have HN:=Lib.hid hn
  clear hn h0
  go_enter Tryz.func98,Tryz.ntmps98
  go_wp2_with fail
  go_loopw [15] (fun i wr=>Below w.heap.size w wr∧∃k:Nat,k≤xs.length∧i=.int .i64 k∧Hid (∀j (ha:j<xs.length) (hb:j<ys.length),j<k→dW xs[j] ys[j]=true)) (fun i _=>xs.length-(intOf i).toNat)
  case atStart=>exact⟨Below.refl _ _,0,Nat.zero_le _,rfl,fun j _ _ h=>absurd h (Nat.not_lt_zero _)⟩
  case round=>
   obtain⟨hbr,k,hk,rfl,hall⟩:=hrel
   by_cases hlt:k<xs.length
   ·have hlt2:k<ys.length:=by have:=HN.out;omega
    have wO:(k:Int)<(ys.length:Int):=by omega
    obtain⟨t1,hc1,hp1⟩:=h1.at k hlt
    obtain⟨t2,hc2,hp2⟩:=h2.at k hlt2
    obtain⟨hcc,ax,hrr⟩:=aK hbr
    have hw1:=hb1
    have hw2:=hb2
    cases he:dW xs[k] ys[k]
    ·have HF:=Lib.hid (rW (eq:=dW) k hlt hlt2 he)
     go_wp2_with fail
     refine dZ hbr (by kernel_rfl) (by kernel_rfl) ?_
     repeat (go_big_quiet_step ((go_at_call 99;rename_i xw;exact Calls.iF (he▸SV _ _ _ _ _ (ig.later (by exact xw.b) hp1) (ig.later (by exact xw.b) hp2)))))
     refine wpQuiet_nil ?_
     intro w2 aZ
     go_wp2_with fail
     go_ret
     exact⟨by rw[HF.out];rfl,aZ⟩
    ·have HS:=Lib.hid (show ∀j (ha:j<xs.length) (hb:j<ys.length),j<k+1→dW xs[j] ys[j]=true from fun j ha hb hj=>by
      by_cases e:j=k
      ·subst e;exact he
      ·exact hall.out j ha hb (by omega))
     go_wp2_with fail
     refine dZ hbr (by kernel_rfl) (by kernel_rfl) ?_
     repeat (go_big_quiet_step ((go_at_call 99;rename_i xw;exact Calls.iF (he▸SV _ _ _ _ _ (ig.later (by exact xw.b) hp1) (ig.later (by exact xw.b) hp2)))))
     refine wpQuiet_nil ?_
     intro w2 aZ
     go_wp2_with fail
     go_roundw
     case rel=>exact⟨aZ,k+1,by omega,by go_num,HS.out⟩
     case measure=>simp[intOf];omega
   ·have HS:=Lib.hid (rX (eq:=dW) HN.out (fun j ha hb=>hall.out j ha hb (by omega)))
    go_wp2_with fail
    go_ret
    exact⟨by rw[HS.out];rfl,hbr⟩
 ·have hne:((xs.length:Int) != (ys.length:Int))=true:=by simp;omega
  have HF:=Lib.hid (rV (eq:=dW) hn)
  clear hn
  go_enter Tryz.func98,Tryz.ntmps98
  go_wp2_with fail
  go_ret
  exact⟨by rw[HF.out];rfl,Below.refl _ _⟩
def bn(d f:Entry):Bool:=(bH d.name f.name)&&((gm bH d.aliases f.aliases)&&((d.attrs == f.attrs)&&((d.dF == f.dF)&&((gm dW d.keys f.keys)&&((d.dn.toList == f.dn.toList)&&((d.fQ == f.fQ)&&((d.fU == f.fU)&&((d.fF == f.fF)&&((d.fG == f.fG)&&((d.fails == f.fails)&&((d.eP == f.eP)&&((d.gq == f.gq)&&((gm bH d.targets f.targets)&&((gm bH d.aP f.aP)&&(gm fO d.history f.history)))))))))))))))
theorem J6(p:aG):bH p p=true:=by simp[bH]
theorem BI{α:Type}{eq:α→α→Bool}(h:∀x,eq x x=true):∀l,gm eq l l=true
 | []=>rfl
 |x::l=>by rw[gm,h x,BI h l];rfl
theorem sameKey_self(k:Key):sameKey k k=true:=by simp[sameKey]
theorem aeL(k:aW):dW k k=true:=by simp[dW,BI sameKey_self]
theorem aeM(d:Entry):bn d d=true:=by simp[bn,J6,BI J6,BI aeL,BI (eq:=fO) (fun x=>by simp[fO])]
theorem aeN(r t:aC)(d f:Entry)(w:World)(hd:iT w r d)(hf:iT w t f):Calls Tryz.prog 40 #[.agg (ay r d),.agg (ay t f)] w fun e w'=>e=.returned (.bool (bn d f))∧Below w.heap.size w w':=by
 have hB:Below w.heap.size w ((w.alloc (.cells (ay r d) 32)).alloc (.cells (ay t f) 32)):=((Below.refl _ _).alloc (Nat.le_refl _) _).alloc (by simp) _
 have HB0:=Lib.hid hB
 obtain⟨R,hR⟩:∃R,R=bn d f:=⟨_,rfl⟩
 rw[←hR]
 have HR:=Lib.hid hR
 clear hR
 go_enter Tryz.func40,Tryz.ntmps40
 go_wp2_with fail
 refine(EU r.parts t.parts d.name f.name _ (hd.name.later HB0.out) (hf.name.later HB0.out)).mono ?_
 rintro e w1 ⟨rfl,hk1⟩
 have hb1:=hk1
 clear hk1
 have HB1:=Lib.hid (af hB hb1)
 obtain⟨hcc,ax,hrr⟩:=aK hb1
 have hsz1:w.heap.size+1<w1.heap.size:=by have:=hb1.size;simp at this;omega
 have hsz0:w.heap.size<w1.heap.size:=by omega
 cases h1:(bH d.name f.name)
 ·try dsimp only
  first|go_values|go_step|go_upon
  refine dN 4 (by kernel_rfl) ?_
  intro a' y1 y2
  go_wp2_with fail
  refine bodyPost_ret (results_tmp (t:=4) (by rfl) _ _ _) y2 ?_
  exact⟨by rw[y1,HR.out,show bn d f=false by unfold bn;rw[h1];rfl],HB1.out⟩
 go_wp2_with fail
 refine(J5 r.aliases.a t.aliases.a r.aliases.cap t.aliases.cap d.aliases f.aliases _ (hd.aliases.later HB1.out) (hf.aliases.later HB1.out)).mono ?_
 rintro e w2 ⟨rfl,hk2⟩
 have hb2:=af hb1 hk2
 clear hk2 hcc ax hrr hsz0 hsz1
 have HB2:=Lib.hid (af hB hb2)
 obtain⟨hcc,ax,hrr⟩:=aK hb2
 have hsz1:w.heap.size+1<w2.heap.size:=by have:=hb2.size;simp at this;omega
 have hsz0:w.heap.size<w2.heap.size:=by omega
 cases h2:(gm bH d.aliases f.aliases)
 ·try dsimp only
  first|go_values|go_step|go_upon
  refine dN 4 (by kernel_rfl) ?_
  intro a' y1 y2
  go_wp2_with fail
  refine bodyPost_ret (results_tmp (t:=4) (by rfl) _ _ _) y2 ?_
  exact⟨by rw[y1,HR.out,show bn d f=false by unfold bn;rw[h1,h2];rfl],HB2.out⟩
 try dsimp only
 iterate 14 (first|go_values|go_skip|go_guarded|go_step|go_upon)
 cases h3:(d.attrs == f.attrs)
 ·try dsimp only
  first|go_values|go_step|go_upon
  refine dN 4 (by kernel_rfl) ?_
  intro a' y1 y2
  go_wp2_with fail
  refine bodyPost_ret (results_tmp (t:=4) (by rfl) _ _ _) y2 ?_
  exact⟨by rw[y1,HR.out,show bn d f=false by unfold bn;rw[h1,h2,h3];rfl],HB2.out⟩
 try dsimp only
 iterate 14 (first|go_values|go_skip|go_guarded|go_step|go_upon)
 cases h4:(d.dF == f.dF)
 ·try dsimp only
  first|go_values|go_step|go_upon
  refine dN 4 (by kernel_rfl) ?_
  intro a' y1 y2
  go_wp2_with fail
  refine bodyPost_ret (results_tmp (t:=4) (by rfl) _ _ _) y2 ?_
  exact⟨by rw[y1,HR.out,show bn d f=false by unfold bn;rw[h1,h2,h3,h4];rfl],HB2.out⟩
 go_wp2_with fail
 refine(aeK r.keys.a t.keys.a r.keys.cap t.keys.cap d.keys f.keys _ (hd.keys.later HB2.out) (hf.keys.later HB2.out)).mono ?_
 rintro e w3 ⟨rfl,hk3⟩
 have hb3:=af hb2 hk3
 clear hk3 hcc ax hrr hsz0 hsz1
 have HB3:=Lib.hid (af hB hb3)
 obtain⟨hcc,ax,hrr⟩:=aK hb3
 have hsz1:w.heap.size+1<w3.heap.size:=by have:=hb3.size;simp at this;omega
 have hsz0:w.heap.size<w3.heap.size:=by omega
 cases h5:(gm dW d.keys f.keys)
 ·try dsimp only
  first|go_values|go_step|go_upon
  refine dN 4 (by kernel_rfl) ?_
  intro a' y1 y2
  go_wp2_with fail
  refine bodyPost_ret (results_tmp (t:=4) (by rfl) _ _ _) y2 ?_
  exact⟨by rw[y1,HR.out,show bn d f=false by unfold bn;rw[h1,h2,h3,h4,h5];rfl],HB3.out⟩
 try dsimp only
 iterate 14 (first|go_values|go_skip|go_guarded|go_step|go_upon)
 cases h6:(d.dn.toList == f.dn.toList)
 ·try dsimp only
  first|go_values|go_step|go_upon
  refine dN 4 (by kernel_rfl) ?_
  intro a' y1 y2
  go_wp2_with fail
  refine bodyPost_ret (results_tmp (t:=4) (by rfl) _ _ _) y2 ?_
  exact⟨by rw[y1,HR.out,show bn d f=false by unfold bn;rw[h1,h2,h3,h4,h5,h6];rfl],HB3.out⟩
 try dsimp only
 iterate 14 (first|go_values|go_skip|go_guarded|go_step|go_upon)
 cases h7:(d.fQ == f.fQ)
 ·try dsimp only
  first|go_values|go_step|go_upon
  refine dN 4 (by kernel_rfl) ?_
  intro a' y1 y2
  go_wp2_with fail
  refine bodyPost_ret (results_tmp (t:=4) (by rfl) _ _ _) y2 ?_
  exact⟨by rw[y1,HR.out,show bn d f=false by unfold bn;rw[h1,h2,h3,h4,h5,h6,h7];rfl],HB3.out⟩
 try dsimp only
 iterate 14 (first|go_values|go_skip|go_guarded|go_step|go_upon)
 cases h8:(d.fU == f.fU)
 ·try dsimp only
  first|go_values|go_step|go_upon
  refine dN 4 (by kernel_rfl) ?_
  intro a' y1 y2
  go_wp2_with fail
  refine bodyPost_ret (results_tmp (t:=4) (by rfl) _ _ _) y2 ?_
  exact⟨by rw[y1,HR.out,show bn d f=false by unfold bn;rw[h1,h2,h3,h4,h5,h6,h7,h8];rfl],HB3.out⟩
 try dsimp only
 iterate 14 (first|go_values|go_skip|go_guarded|go_step|go_upon)
 cases h9:(d.fF == f.fF)
 ·try dsimp only
  first|go_values|go_step|go_upon
  refine dN 4 (by kernel_rfl) ?_
  intro a' y1 y2
  go_wp2_with fail
  refine bodyPost_ret (results_tmp (t:=4) (by rfl) _ _ _) y2 ?_
  exact⟨by rw[y1,HR.out,show bn d f=false by unfold bn;rw[h1,h2,h3,h4,h5,h6,h7,h8,h9];rfl],HB3.out⟩
 try dsimp only
 iterate 16 (first|go_values|go_skip|go_guarded|go_step|go_upon)
 cases h10:(d.fG == f.fG)
 ·try dsimp only
  first|go_values|go_step|go_upon
  refine dN 4 (by kernel_rfl) ?_
  intro a' y1 y2
  go_wp2_with fail
  refine bodyPost_ret (results_tmp (t:=4) (by rfl) _ _ _) y2 ?_
  exact⟨by rw[y1,HR.out,show bn d f=false by unfold bn;rw[h1,h2,h3,h4,h5,h6,h7,h8,h9,h10];rfl],HB3.out⟩
 try dsimp only
 iterate 16 (first|go_values|go_skip|go_guarded|go_step|go_upon)
 cases h11:(d.fails == f.fails)
 ·try dsimp only
  first|go_values|go_step|go_upon
  refine dN 4 (by kernel_rfl) ?_
  intro a' y1 y2
  go_wp2_with fail
  refine bodyPost_ret (results_tmp (t:=4) (by rfl) _ _ _) y2 ?_
  exact⟨by rw[y1,HR.out,show bn d f=false by unfold bn;rw[h1,h2,h3,h4,h5,h6,h7,h8,h9,h10,h11];rfl],HB3.out⟩
 try dsimp only
 iterate 16 (first|go_values|go_skip|go_guarded|go_step|go_upon)
 cases h12:(d.eP == f.eP)
 ·try dsimp only
  first|go_values|go_step|go_upon
  refine dN 4 (by kernel_rfl) ?_
  intro a' y1 y2
  go_wp2_with fail
  refine bodyPost_ret (results_tmp (t:=4) (by rfl) _ _ _) y2 ?_
  exact⟨by rw[y1,HR.out,show bn d f=false by unfold bn;rw[h1,h2,h3,h4,h5,h6,h7,h8,h9,h10,h11,h12];rfl],HB3.out⟩
 try dsimp only
 iterate 16 (first|go_values|go_skip|go_guarded|go_step|go_upon)
 cases h13:(d.gq == f.gq)
 ·try dsimp only
  first|go_values|go_step|go_upon
  refine dN 4 (by kernel_rfl) ?_
  intro a' y1 y2
  go_wp2_with fail
  refine bodyPost_ret (results_tmp (t:=4) (by rfl) _ _ _) y2 ?_
  exact⟨by rw[y1,HR.out,show bn d f=false by unfold bn;rw[h1,h2,h3,h4,h5,h6,h7,h8,h9,h10,h11,h12,h13];rfl],HB3.out⟩
 go_wp2_with fail
 refine(J5 r.targets.a t.targets.a r.targets.cap t.targets.cap d.targets f.targets _ (hd.targets.later HB3.out) (hf.targets.later HB3.out)).mono ?_
 rintro e w4 ⟨rfl,hk4⟩
 have hb4:=af hb3 hk4
 clear hk4 hcc ax hrr hsz0 hsz1
 have HB4:=Lib.hid (af hB hb4)
 obtain⟨hcc,ax,hrr⟩:=aK hb4
 have hsz1:w.heap.size+1<w4.heap.size:=by have:=hb4.size;simp at this;omega
 have hsz0:w.heap.size<w4.heap.size:=by omega
 cases Az:(gm bH d.targets f.targets)
 ·try dsimp only
  first|go_values|go_step|go_upon
  refine dN 4 (by kernel_rfl) ?_
  intro a' y1 y2
  go_wp2_with fail
  refine bodyPost_ret (results_tmp (t:=4) (by rfl) _ _ _) y2 ?_
  exact⟨by rw[y1,HR.out,show bn d f=false by unfold bn;rw[h1,h2,h3,h4,h5,h6,h7,h8,h9,h10,h11,h12,h13,Az];rfl],HB4.out⟩
 go_wp2_with fail
 refine(J5 r.aP.a t.aP.a r.aP.cap t.aP.cap d.aP f.aP _ (hd.aP.later HB4.out) (hf.aP.later HB4.out)).mono ?_
 rintro e w5 ⟨rfl,hk5⟩
 have hb5:=af hb4 hk5
 clear hk5 hcc ax hrr hsz0 hsz1
 have J7:=Lib.hid (af hB hb5)
 obtain⟨hcc,ax,hrr⟩:=aK hb5
 have hsz1:w.heap.size+1<w5.heap.size:=by have:=hb5.size;simp at this;omega
 have hsz0:w.heap.size<w5.heap.size:=by omega
 cases h15:(gm bH d.aP f.aP)
 ·try dsimp only
  first|go_values|go_step|go_upon
  refine dN 4 (by kernel_rfl) ?_
  intro a' y1 y2
  go_wp2_with fail
  refine bodyPost_ret (results_tmp (t:=4) (by rfl) _ _ _) y2 ?_
  exact⟨by rw[y1,HR.out,show bn d f=false by unfold bn;rw[h1,h2,h3,h4,h5,h6,h7,h8,h9,h10,h11,h12,h13,Az,h15];rfl],J7.out⟩
 go_wp2_with fail
 refine(aeJ r.history.a t.history.a r.history.cap t.history.cap d.history f.history _ (hd.history.later J7.out) (hf.history.later J7.out)).mono ?_
 rintro e w6 ⟨rfl,hk6⟩
 have hb6:=af hb5 hk6
 clear hk6 hcc ax hrr hsz0 hsz1
 have HB6:=Lib.hid (af hB hb6)
 obtain⟨hcc,ax,hrr⟩:=aK hb6
 have hsz1:w.heap.size+1<w6.heap.size:=by have:=hb6.size;simp at this;omega
 have hsz0:w.heap.size<w6.heap.size:=by omega
 go_wp2_with fail
 go_ret
 exact⟨by rw[HR.out,show bn d f=(gm fO d.history f.history) by unfold bn;rw[h1,h2,h3,h4,h5,h6,h7,h8,h9,h10,h11,h12,h13,Az,h15];rfl];rfl,HB6.out⟩
end Go.Proofs.YtibhckkjciflaaaGreatDoor
namespace Go.WW
end Go.WW
namespace Go.Proofs.YtibhckkjciflaaaGreatDoor
open Go.RowKit Go.WW
end Go.Proofs.YtibhckkjciflaaaGreatDoor
namespace Go.WW
open Go.RowKit
def amM(w:World)(d:Entry)(e:Ending)(w':World):Prop:=∃r:aC,e=.returned (.agg (ay r d))∧Below w.heap.size w w'∧bg w' (fresh w.heap.size w') (fun x=>iT x r d)
theorem run_loadVar_row{P:Program}{T:TypeId}{d:TypeDesc}{n:Nat}(hu:P.underlying T=some d)(hd:d.isRow=true)(hi:(P.info? T).map (·.size)=some n){w:World}{b o:Nat}{cs:Array Value}(h:row? w b o n=some cs) :
  (loadVar T ⟨b,o,none⟩).run P w=.ok (.agg cs) w:=by
 have hs:=yc h
 have:=run_loadVar_mid (P:=P) w b o T cs.toList d (Ou h) hu hd (by rw[hi];simp[hs])
 simpa using this
theorem uI{P:Program}{fn:Func}{a:Tmp}{T:TypeId}{d:TypeDesc}{n:Nat}(hf:fn.results=#[.cell a T])(hu:P.underlying T=some d)(hd:d.isRow=true)(hi:(P.info? T).map (·.size)=some n){tmps:Array Value}{w:World}{b o:Nat}{cs:Array Value}(ha:tmps.getD a undef=.pointer (some ⟨b,o,none⟩))(h:row? w b o n=some cs) :
  (results fn tmps).run P w=.ok (.agg cs) w:=by
 have hl:=run_loadVar_row hu hd hi h
 have ha':(asAddr (tmps.getD a undef)).run P w=.ok ⟨b,o,none⟩ w:=by rw[ha];rfl
 rw[Array.getD_eq_getD_getElem?]at ha'
 unfold results
 rw[hf]
 simp[Sem.run_bind,ha',hl,Result.andThen]
theorem aN{w:World}{b:Nat}{c:Array Value}{t:TypeId}(h:w.heap[b]?=some (.cells c t)):(∀o,w.cell? ⟨b,o,none⟩=c[o]?)∧(∀o,w.frozen? ⟨b,o,none⟩=false)∧(∀o n,row? w b o n=mF c o n)∧(b<w.heap.size):=
 ⟨fun o=>cell_of_row w b o c t _ h,fun o=>frozen_of_row w b o c t h,fun _ _=>AB h,(Array.getElem?_eq_some_iff.1 h).1⟩
end Go.WW
namespace Go.Proofs.YtibhckkjciflaaaGreatDoor
open Go.RowKit Go.WW
end Go.Proofs.YtibhckkjciflaaaGreatDoor
namespace Go.WW
open Go.RowKit
def iJ(m:Nat)(w:World)(a:Option Addr)(n k:Nat):Prop:=∀i,i<n→∃b o,a=some ⟨b,o,Option.none⟩∧m≤b∧aS w b (o+i*k) k=true
theorem iJ.zero{m:Nat}{w:World}{a:Option Addr}{k:Nat}:iJ m w a 0 k:=fun _ h=>absurd h (Nat.not_lt_zero _)
theorem iJ.le{m m':Nat}{w:World}{a:Option Addr}{n k:Nat}(h:iJ m w a n k)(hm:m'≤m):iJ m' w a n k:=fun i hi=>by
 obtain⟨b,o,e,h1,h2⟩:=h i hi
 exact⟨b,o,e,Nat.le_trans hm h1,h2⟩
theorem iJ.lQ{w:World}{base k:Nat}{e:TypeId}{s:Sl}{rows:List (Array Value)}(h:Own w base e k s rows){n:Nat}(hn:rows.length=n):iJ base w s.a n k:=by
 subst hn
 intro i hi
 rcases h.own.2 with⟨_,hn⟩|⟨g,cap,cur,hv,hb,hh,hle,_,hsz,_⟩
 ·omega
 ·have ha:s.a=some ⟨g,0,none⟩:=by injection hv
  refine⟨g,0,ha,hb,nS hh ?_⟩
  rw[hsz,Nat.zero_add,←Nat.succ_mul]
  exact Nat.le_trans (Nat.mul_le_mul_right _ hi) (Nat.mul_le_mul_right _ hle)
def aeP(m:Nat)(w:World)(a:Option Addr)(l:List ByteArray):Prop:=lK w a l∧iJ m w a l.length 1
def BJ(m:Nat)(w:World)(a:Option Addr)(l:List UInt8):Prop:=BytesAt w a l∧iJ m w a l.length 1
def pK(m:Nat)(w:World)(s:Sl)(p:aG):Prop:=gu w s p∧iJ m w s.a p.parts.length 1
def wP(m:Nat)(w:World)(a:Option Addr)(l:List aG):Prop:=fH w a l∧iJ m w a l.length 2
def rY(m:Nat)(w:World)(s:Sl)(k:Key):Prop:=BJ m w s.a k.bytes
def wQ(m:Nat)(w:World)(a:Option Addr)(l:List Key):Prop:=cu w 3 a l.length fun i cs=>∃p s,l[i]?=some p∧cs=bG s p∧rY m w s p
def uJ(m:Nat)(w:World)(s:Sl)(k:aW):Prop:=wQ m w s.a k.keys∧k.bF.size≤lim
def oN(m:Nat)(w:World)(a:Option Addr)(l:List aW):Prop:=(cu w 5 a l.length fun i cs=>∃p s,l[i]?=some p∧cs=aV s p∧uJ m w s p)∧iJ m w a l.length 5
structure aeQ(m:Nat)(w:World)(r:aC)(d:Entry):Prop where
 at_:iT w r d
 name:iJ m w r.parts.a d.name.parts.length 1
 aliases:iJ m w r.aliases.a d.aliases.length 2
 keys:oN m w r.keys.a d.keys
theorem cu.imp{w:World}{k:Nat}{a:Option Addr}{n:Nat}{R R':Nat→Array Value→Prop}(h:cu w k a n R)(hR:∀i cs,R i cs→R' i cs):cu w k a n R':=
 ⟨h.1,fun i hi=>by obtain⟨b,o,cs,h1,h2,h3⟩:=h.2 i hi;exact⟨b,o,cs,h1,h2,hR i cs h3⟩⟩
theorem BJ.le{m m':Nat}{w:World}{a:Option Addr}{l:List UInt8}(h:BJ m w a l)(hm:m'≤m):BJ m' w a l:=⟨h.1,h.2.le hm⟩
theorem rY.le{m m':Nat}{w:World}{s:Sl}{k:Key}(h:rY m w s k)(hm:m'≤m):rY m' w s k:=⟨h.1,h.2.le hm⟩
theorem wQ.le{m m':Nat}{w:World}{a:Option Addr}{l:List Key}(h:wQ m w a l)(hm:m'≤m):wQ m' w a l:=cu.imp h fun _ _ ⟨p,s,h1,h2,h3⟩=>⟨p,s,h1,h2,h3.le hm⟩
theorem uJ.le{m m':Nat}{w:World}{s:Sl}{k:aW}(h:uJ m w s k)(hm:m'≤m):uJ m' w s k:=⟨h.1.le hm,h.2⟩
theorem wQ.at_{m:Nat}{w:World}{a:Option Addr}{l:List Key}(h:wQ m w a l):jw w a l:=cu.imp h fun _ _ ⟨p,s,h1,h2,h3⟩=>⟨p,s,h1,h2,h3.1⟩
theorem uJ.at_{m:Nat}{w:World}{s:Sl}{k:aW}(h:uJ m w s k):ig w s k:=⟨h.1.at_,h.2⟩
theorem oN.at_{m:Nat}{w:World}{a:Option Addr}{l:List aW}(h:oN m w a l):kV w a l:=cu.imp h.1 fun _ _ ⟨p,s,h1,h2,h3⟩=>⟨p,s,h1,h2,h3.at_⟩
end Go.WW
