/- A part of the proof. -/
import Derived.Test.YtibhckkjciflaaaGreatDoorA26
import Derived.Test.YtibhckkjciflaaaGreatDoorA28
import Derived.Test.YtibhckkjciflaaaGreatDoorA13
import Derived.Test.YtibhckkjciflaaaGreatDoorA31
import Derived.Test.YtibhckkjciflaaaGreatDoorA20
import Derived.Test.YtibhckkjciflaaaGreatDoorA16
import Derived.Test.YtibhckkjciflaaaGreatDoorA14
import Derived.Shelf.SlMaps.Clone
import Derived.Laws.Externs
set_option maxRecDepth 100000
set_option maxHeartbeats 8000000
namespace Go.Proofs.YtibhckkjciflaaaGreatDoor
open Go.RowKit Go.WW
def agB(w:World)(x:aT)(e:Ending)(w':World):Prop:=∃s r,e=.returned (.agg (aH x s r))∧Below w.heap.size w w'∧bg w' (fresh w.heap.size w') (fun y=>afl w.heap.size y s r x)
theorem agC(x:aT)(s:Sl)(r:aC)(w:World)(hx:dV w s r x):Calls Tryz.prog 6 #[.agg (aH x s r)] w (agB w x):=by
 have hB0:Below w.heap.size w ((w.alloc (.cells (aH x s r) 36)).alloc (.cells (aj 0 0 0 0 cO dA bz aX bI ⟨#[]⟩ 0 0 0) 36)):=((Below.refl _ w).alloc (Nat.le_refl _) _).alloc (by simp) _
 have hx0:((w.alloc (.cells (aH x s r) 36)).alloc (.cells (aj 0 0 0 0 cO dA bz aX bI ⟨#[]⟩ 0 0 0) 36)).heap[w.heap.size]?=some (.cells (aH x s r) 36):=oK w _ _
 have hz0:aS ((w.alloc (.cells (aH x s r) 36)).alloc (.cells (aj 0 0 0 0 cO dA bz aX bI ⟨#[]⟩ 0 0 0) 36)) (w.heap.size+1) 0 37=true:=by simp[go_sem]
 have hs0:w.heap.size+1<((w.alloc (.cells (aH x s r) 36)).alloc (.cells (aj 0 0 0 0 cO dA bz aX bI ⟨#[]⟩ 0 0 0) 36)).heap.size:=by simp
 have hne:w.heap.size+1≠w.heap.size:=by omega
 unfold aH at *
 go_enter Tryz.func6,Tryz.ntmps6
 go_wp2_with fail
 rw[←afk 0 0 0 0]
 generalize (w.alloc (.cells (aj x.i x.t x.m x.k s x.n r x.d x.q x.pn x.f x.a x.b) 36)).alloc (.cells (aj 0 0 0 0 cO dA bz aX bI ⟨#[]⟩ 0 0 0) 36)=W0 at *
 refine(J8 _ _ _ (hx.1.later hB0)).mono ?_
 rintro e V0 ⟨s0,rfl,hb0,hd0⟩
 have hy0:=(hb0.block w.heap.size (by omega)).trans hx0
 obtain⟨hc,hf,hr,hlt⟩:=aN hy0
 have hx1:(putRow V0 w.heap.size 4 (aJ s0 x.n)).heap[w.heap.size]?=some (.cells (aj x.i x.t x.m x.k s0 x.n r x.d x.q x.pn x.f x.a x.b) 36):=(nR hy0 (by simp[go_sem])).trans (by rfl)
 have hcp:aS V0 w.heap.size 4 2=true:=nS hy0 (by simp[go_sem])
 have hB1:Below w.heap.size w (putRow V0 w.heap.size 4 (aJ s0 x.n)):=Go.WW.Below.putRow (af hB0 hb0) (Nat.le_refl _)
 have hz1:aS (putRow V0 w.heap.size 4 (aJ s0 x.n)) (w.heap.size+1) 0 37=true:=by rw[qX hne,jJ hb0 _ _ _ (by omega)];exact hz0
 have hs1:w.heap.size+1<(putRow V0 w.heap.size 4 (aJ s0 x.n)).heap.size:=by have:=hb0.size;rw[kL];omega
 have BK:bg (putRow V0 w.heap.size 4 (aJ s0 x.n)) (fun k=>w.heap.size+1<k∧k<(putRow V0 w.heap.size 4 (aJ s0 x.n)).heap.size) (fun y=>pK w.heap.size y s0 x.n):=(show bg V0 (fresh W0.heap.size V0) (fun y=>pK w.heap.size y s0 x.n) from fun y hy=>⟨(hd0 y hy).1,(hd0 y hy).2.le hB0.size⟩).to (fun k hk=>by have h1:=hk.1;exact iP (by omega)) (fun k hk=>⟨by have h1:=hk.1;omega,by have h2:=hk.2;rw[kL];exact h2⟩)
 clear hx0 hz0 hs0 hy0 hb0 hd0 hB0
 obtain⟨hc2,hf2,hr2,hlt2⟩:=aN hx1
 have HX:=Lib.hid hx1
 clear hx1
 go_wp2_with fail
 have hx1:=HX.out
 clear HX hc hf hr hlt hc2 hf2 hr2 hlt2 hcp
 generalize putRow V0 w.heap.size 4 (aJ s0 x.n)=W1 at *
 refine(ae3 _ _ _ (hx.2.1.later hB1)).mono ?_
 rintro e V1 ⟨r1,rfl,hb1,hd1⟩
 have hy1:=(hb1.block w.heap.size (by omega)).trans hx1
 obtain⟨hc,hf,hr,hlt⟩:=aN hy1
 have hx2:(putRow V1 w.heap.size 6 (ay r1 x.d)).heap[w.heap.size]?=some (.cells (aj x.i x.t x.m x.k s0 x.n r1 x.d x.q x.pn x.f x.a x.b) 36):=(nR hy1 (by simp[go_sem])).trans (by rfl)
 have hcp:aS V1 w.heap.size 6 17=true:=nS hy1 (by simp[go_sem])
 have hB2:Below w.heap.size w (putRow V1 w.heap.size 6 (ay r1 x.d)):=Go.WW.Below.putRow (af hB1 hb1) (Nat.le_refl _)
 have hz2:aS (putRow V1 w.heap.size 6 (ay r1 x.d)) (w.heap.size+1) 0 37=true:=by rw[qX hne,jJ hb1 _ _ _ (by omega)];exact hz1
 have hs2:w.heap.size+1<(putRow V1 w.heap.size 6 (ay r1 x.d)).heap.size:=by have:=hb1.size;rw[kL];omega
 have EW:bg (putRow V1 w.heap.size 6 (ay r1 x.d)) (fun k=>w.heap.size+1<k∧k<(putRow V1 w.heap.size 6 (ay r1 x.d)).heap.size) (fun y=>pK w.heap.size y s0 x.n):=BK.to (fun k hk=>by have h1:=hk.1;have h2:=hk.2;rw[iP (by omega)];exact hb1.block k h2) (fun k hk=>⟨hk.1,by have h2:=hk.2;have h3:=hb1.size;rw[kL];omega⟩)
 have EX:bg (putRow V1 w.heap.size 6 (ay r1 x.d)) (fun k=>w.heap.size+1<k∧k<(putRow V1 w.heap.size 6 (ay r1 x.d)).heap.size) (fun y=>iT y r1 x.d∧iJ w.heap.size y r1.aliases.a x.d.aliases.length 2):=(show bg V1 (fresh W1.heap.size V1) (fun y=>iT y r1 x.d∧iJ w.heap.size y r1.aliases.a x.d.aliases.length 2) from fun y hy=>⟨(hd1 y hy).at_,(hd1 y hy).aliases.le hB1.size⟩).to (fun k hk=>by have h1:=hk.1;exact iP (by omega)) (fun k hk=>⟨by have h1:=hk.1;omega,by have h2:=hk.2;rw[kL];exact h2⟩)
 clear hx1 hz1 hs1 hy1 hb1 hd1 hB1 BK
 obtain⟨hc2,hf2,hr2,hlt2⟩:=aN hx2
 have HX:=Lib.hid hx2
 clear hx2
 go_wp2_with fail
 have hx2:=HX.out
 have hrow:=ql (w:=putRow V1 w.heap.size 6 (ay r1 x.d)) (wK x.i x.t x.m x.k s0 x.n r1 x.d x.q x.pn x.f x.a x.b) hz2
 have Ko:∀k,w.heap.size+1<k∧k<(putRow V1 w.heap.size 6 (ay r1 x.d)).heap.size→(putRow (putRow V1 w.heap.size 6 (ay r1 x.d)) (w.heap.size+1) 0 (aj x.i x.t x.m x.k s0 x.n r1 x.d x.q x.pn x.f x.a x.b)).heap[k]?=(putRow V1 w.heap.size 6 (ay r1 x.d)).heap[k]?:=fun k hk=>iP (by omega)
 refine bodyPost_ret (uI (by rfl) Tryz.underlying36 rfl (by kernel_rfl) rfl hrow) rfl ⟨s0,r1,rfl,Go.WW.Below.putRow hB2 (by omega),?_⟩
 intro y hy
 have hX:=fun k (hk:w.heap.size+1<k∧k<(putRow V1 w.heap.size 6 (ay r1 x.d)).heap.size)=>(hy k ⟨by omega,by rw[kL];exact hk.2⟩).trans (Ko k hk)
 have e0:=EW _ hX
 have e1:=EX _ hX
 exact⟨⟨e0.1,e1.1,hx.2.2.1,hx.2.2.2⟩,e0.2,e1.2⟩
end Go.Proofs.YtibhckkjciflaaaGreatDoor
namespace Go.WW
open Go.RowKit
theorem Uu(i t m k:Int)(s:Sl)(n:aG)(r:aC)(d:Entry)(q:aO)(pn:ByteArray)(f a b:Int):(aj i t m k s n r d q pn f a b)[4]?=some (.slice s.a n.parts.length s.cap):=by simp[aj]
theorem agD(i t m k:Int)(s:Sl)(n:aG)(r:aC)(d:Entry)(q:aO)(pn:ByteArray)(f a b:Int)(h:4<(aj i t m k s n r d q pn f a b).size):(aj i t m k s n r d q pn f a b)[4]=.slice s.a n.parts.length s.cap:=by have:=Uu i t m k s n r d q pn f a b;rw[Array.getElem?_eq_getElem h]at this;exact Option.some.inj this
theorem Uw(i t m k:Int)(s:Sl)(n:aG)(r:aC)(d:Entry)(q:aO)(pn:ByteArray)(f a b:Int):(aj i t m k s n r d q pn f a b)[8]?=some (.slice r.aliases.a d.aliases.length r.aliases.cap):=by simp[aj]
theorem agE(i t m k:Int)(s:Sl)(n:aG)(r:aC)(d:Entry)(q:aO)(pn:ByteArray)(f a b:Int)(h:8<(aj i t m k s n r d q pn f a b).size):(aj i t m k s n r d q pn f a b)[8]=.slice r.aliases.a d.aliases.length r.aliases.cap:=by have:=Uw i t m k s n r d q pn f a b;rw[Array.getElem?_eq_getElem h]at this;exact Option.some.inj this
attribute [go_sem] Uu agD Uw agE
def xe(m c:Nat)(w:World)(a:Option Addr)(n k:Nat):Prop:=∀i,i<n→∃b o,a=some ⟨b,o,none⟩∧m≤b∧b≠c∧aS w b (o+i*k) k=true
theorem xe.of{m c:Nat}{w w':World}{a:Option Addr}{n k:Nat}(h:iJ m w a n k)(hc:w.heap.size≤c)(hb:Below w.heap.size w w'):xe m c w' a n k:=fun i hi=>by
 obtain⟨b,o,h1,h2,h3⟩:=h i hi
 obtain⟨cs,t,h4,-⟩:=uj h3
 have hlt:b<w.heap.size:=(Array.getElem?_eq_some_iff.1 h4).1
 exact⟨b,o,h1,h2,by omega,by rw[jJ hb _ _ _ hlt];exact h3⟩
theorem xe.later{m c:Nat}{w w':World}{a:Option Addr}{n k:Nat}(h:xe m c w a n k)(hb:Below w.heap.size w w'):xe m c w' a n k:=fun i hi=>by
 obtain⟨b,o,h1,h2,h5,h3⟩:=h i hi
 obtain⟨cs,t,h4,-⟩:=uj h3
 exact⟨b,o,h1,h2,h5,by rw[jJ hb _ _ _ (Array.getElem?_eq_some_iff.1 h4).1];exact h3⟩
structure mY(S:Nat→Prop)(w w':World):Prop where
 but:But S w w'
 put:∀b o n,aS w b o n=true→aS w' b o n=true
theorem mY.refl(S:Nat→Prop)(w:World):mY S w w:=⟨But.refl _ _,fun _ _ _ h=>h⟩
theorem Ux{w w':World}{b o n:Nat}{c c':Array Value}{t:TypeId}(h:aS w b o n=true)(h1:w.heap[b]?=some (.cells c t))(h2:w'.heap[b]?=some (.cells c' t))(hs:c'.size=c.size):aS w' b o n=true:=by
 obtain⟨cs,t2,h4,h5⟩:=uj h
 rw[h1]at h4
 cases h4
 exact nS h2 (by omega)
theorem mY.cell{S:Nat→Prop}{w w':World}(h:mY S w w'){b o:Nat}(hb:S b)(hp:aS w' b o 1=true)(v:Value):mY S w (w'.setCell ⟨b,o,none⟩ v):=by
 obtain⟨c,t,h1,h2⟩:=uj hp
 refine⟨h.but.trans ⟨rfl,rfl,rfl,by simp[World.setCell],fun k _ hn=>Below.heap_setCell _ _ _ _ (fun e=>hn (e▸hb))⟩,fun b' o' n' hq=>?_⟩
 have hq:=h.put b' o' n' hq
 by_cases e:b'=b
 ·subst e
  exact Ux hq h1 (jA v h1) (by simp)
 ·rw[uo e];exact hq
theorem mY.row{S:Nat→Prop}{w w':World}(h:mY S w w'){b o:Nat}{cs:Array Value}(hb:S b)(hp:aS w' b o cs.size=true):mY S w (putRow w' b o cs):=by
 obtain⟨c,t,h1,h2⟩:=uj hp
 have hl:=Go.WW.Below.putRow (cs:=cs) (o:=o) (Below.refl 0 w') (Nat.zero_le b)
 refine⟨h.but.trans ⟨hl.os,hl.tape,hl.output,hl.size,fun k _ hn=>iP (fun e=>hn (e▸hb))⟩,fun b' o' n' hq=>?_⟩
 have hq:=h.put b' o' n' hq
 by_cases e:b'=b
 ·subst e
  exact Ux hq h1 (nR h1 h2) (O8 h2)
 ·rw[qX e];exact hq
section
variable {P:Program} {ops:Array Oper} {S:World→Prop} {Q:Act→World→Prop} {n:Nat}
def sK(n:Nat)(o:Oper):Bool:=looks o&&!(o.dst == some n)
theorem agF{o:Oper}(h:sK n o=true):looks o=true:=by unfold sK at h;simp at h;exact h.1
theorem BO{o:Oper}{rest:List Oper}{a:Act}{w:World}(hw:Region.wanted o (yielded ops a.tmps)=true)(hs:sK n o=true)
  (h:∀K:Act→Prop,(∀a',bu P ops (sK n) S Q rest a' w→K a')→o.quiet P a S K):bu P ops (sK n) S Q (o::rest) a w:=by
 rw[iG,if_pos hw,if_pos hs]
 obtain⟨v,hv,hh⟩:=h _ (fun _ x=>x)
 refine⟨v,fun w' hw'=>?_,hh⟩
 have:=hv w' hw'
 unfold Oper.quietAt at this
 rcases Iw (P:=P) (agF hs) a.eval w' with⟨u,w'',e⟩|⟨x,w'',e⟩
 ·rw[e]at this ⊢
  obtain⟨rfl,rfl⟩:=this
  rfl
 ·rw[e]at this
  exact this.elim
theorem E9{o:Oper}{rest:List Oper}{a:Act}{w:World}(hw:Region.wanted o (yielded ops a.tmps)=true)(hs:sK n o=false)
  (h:∀K:Act→World→Prop,(∀a' w',S w'→bu P ops (sK n) S Q rest a' w'→K a' w')→o.wp P a w K never):bu P ops (sK n) S Q (o::rest) a w:=by
 rw[iG,if_pos hw,if_neg (by simp[hs])]
 exact h _ (fun _ _ x y=>⟨x,y⟩)
end
theorem agG{w:World}{b o:Nat}(h:aS w b o 1=true):(∃v,w.cell? ⟨b,o,none⟩=some v)∧w.frozen? ⟨b,o,none⟩=false:=by
 obtain⟨c,t,h1,h2⟩:=uj h
 exact⟨⟨c[o],by rw[cell_of_row w b o c t _ h1];exact Array.getElem?_eq_getElem (by omega)⟩,frozen_of_row w b o c t h1⟩
end Go.WW
namespace Go.WW
open Go.RowKit
structure l9(W w:World)(items:List (Sl×List UInt8)):Prop where
 b:Below W.heap.size W w
 dep:∀x∈items,bg w (fresh W.heap.size w) fun y=>BytesAt y x.1.a x.2
theorem l9.nil{W w:World}(h:Below W.heap.size W w):l9 W w []:=⟨h,by simp⟩
theorem l9.mid{W w w':World}{items:List (Sl×List UInt8)}(h:l9 W w items)(hb:Below w.heap.size w w'):l9 W w' items:=
 ⟨af h.b hb,fun x hx=>(h.dep x hx).to (fun k hk=>hb.block k hk.2) (fun _ hk=>⟨hk.1,Nat.lt_of_lt_of_le hk.2 hb.size⟩)⟩
theorem l9.add{W w w':World}{items:List (Sl×List UInt8)}(h:l9 W w items)(hb:Below w.heap.size w w'){s:Sl}{l:List UInt8}(hd:bg w' (fresh w.heap.size w') fun y=>BytesAt y s.a l):l9 W w' (items++[(s,l)]):=
 ⟨af h.b hb,fun x hx=>by
  rcases List.mem_append.1 hx with hx|hx
  ·exact(h.mid hb).dep x hx
  ·simp only[List.mem_cons,List.not_mem_nil,or_false]at hx
   subst hx
   exact hd.to (fun _ _=>rfl) (fun k hk=>⟨Nat.le_trans h.b.size hk.1,hk.2⟩)⟩
theorem l9.lit{T:TypeId}{W w:World}{items:List (Sl×List UInt8)}(h:l9 W w items){cs:Array Value}(hcs:cs=fM items)(hl:items.length≤1000000):fE T W (w.alloc (.cells cs T)) ⟨some ⟨w.heap.size,0,none⟩,items.length⟩ (items.map (·.2)):=by
 subst hcs
 refine⟨az h.b _,items.map jK,by simp,Own.lit h.b.size items rfl hl,fun i hi=>?_⟩
 have hi':i<items.length:=by simpa using hi
 refine bg.to (S:=fresh W.heap.size w) (w:=w) (fun y hy=>?_) (fun k hk=>Below.heap_alloc _ _ _ hk.2) (fun k hk=>⟨hk.1,by have:=hk.2;simp;omega,fun e=>by have h1:=hk.2;have h2:k=w.heap.size:=(by simpa[Sl.blk]using e);omega⟩)
 exact⟨.slice items[i].1.a items[i].2.length items[i].1.cap,by simp[jK],items[i].2,items[i].1,by simp[hi'],rfl,h.dep _ (List.getElem_mem hi') y hy⟩
theorem RH.front{l m:List (List UInt8)}{x:World}{i:Nat}{cs:Array Value}(h:RH l x i cs):RH (l++m) x i cs:=by
 obtain⟨v,h1,q,s,h2,h3⟩:=h
 have hi:i<l.length:=(List.getElem?_eq_some_iff.1 h2).1
 exact⟨v,h1,q,s,by rw[List.getElem?_append_left hi];exact h2,h3⟩
theorem agH{P:Program}{o:Oper}{a:Act}{w2:World}{K:Act→World→Prop}{Q:Exit→Act→World→Prop}(x y:Operand)(t:TypeId)(ho:o.op=.call {callee:=.builtin .append,args:=#[x,y],argTypes:=#[t,t]})
  {T:TypeId} (he:ik P t T 1 24) {W wr:World} {s:Sl} {l L:List (List UInt8)} {items:List (Sl×List UInt8)} (h:fE T W wr s l) (hP:l9 wr w2 items) {n:Nat} (hx:a.eval x=.slice s.a n s.cap) (hn:n=l.length) {k m c:Nat} (hy:a.eval y=.slice (some ⟨k,0,none⟩) m c) (hk:k=w2.heap.size) (hm:m=items.length)
  (hL:L=l++items.map (·.2)) (hlen:L.length≤1000000) {cs:Array Value} {T':TypeId} (hcs:cs=fM items)
  (hK:∀(s3:Sl) w3,fE T W w3 s3 L→K (a.put o.dst (.slice s3.a L.length s3.cap)) w3):o.wp P a (w2.alloc (.cells cs T')) K Q:=by
 subst hn hk hL hm hcs
 obtain⟨rows,hr,hC⟩:=h.c
 rw[List.length_append,List.length_map]at hlen hK
 have hsz:=h.b.size
 have hsz2:=hP.b.size
 have hown:=hC.own.kept (w':=w2.alloc (.cells (fM items) T')) fun g hg=>by
  have hg':=(hC.own.base hg).2
  rw[Below.heap_alloc _ _ _ (Nat.lt_of_lt_of_le hg' hsz2)];exact hP.b.block g hg'
 have hsrc:eF (w2.alloc (.cells (fM items) T')) 1 (some ⟨w2.heap.size,0,none⟩) (items.map jK):=Uk fun i hi=>⟨_,_,rfl,by rw[Nat.zero_add,(pJ (World.alloc_heap_new w2 (.cells (fM items) T'))).1,JR hi]⟩
 refine BF x y t ho he hx hr.symm hown hy (by rw[List.length_map]) hsrc (by rw[hr,List.length_map];simp;omega) (by simp;omega) ?_
 intro s3 w3 hown3 hg3 jh
 have hgs:=hg3.size
 have hso:∀g,s.blk=some g→g<wr.heap.size:=fun g hg=>(hC.own.base hg).2
 have hb3:Below W.heap.size W w3:=(az (af h.b hP.b) _).grown hg3 (by simp;omega) (fun _ e=>(hC.own.base e).1)
 refine hK s3 w3 ⟨hb3,rows++items.map jK,by simp[hr],hown3,fun i hi=>?_⟩
 have hblk:∀k,k<w2.heap.size→some k≠s.blk→w3.heap[k]?=w2.heap[k]?:=fun k hk hne=>by
  rw[hg3.block k (by simp;omega) hne,Below.heap_alloc _ _ _ hk]
 have mX:∀k,k<w2.heap.size→some k≠s.blk→some k≠s3.blk:=fun k hk hne=>by
  rcases jh with e|e
  ·rw[e];exact hne
  ·rw[e];intro e2;injection e2 with e2;simp at e2;omega
 have hw3:w2.heap.size≤w3.heap.size:=by simp at hgs;omega
 by_cases hlt:i<rows.length
 ·rw[List.getElem_append_left hlt]
  have:=(hC.each i hlt).to (w1:=w3) (S1:=I7 W.heap.size w3 s3.blk) (fun k hk=>by
   have h1:=hk.2.1
   rw[hblk k (by omega) hk.2.2,hP.b.block k h1]) (fun k hk=>⟨hk.1,by have:=hk.2.1;omega,mX k (by have:=hk.2.1;omega) hk.2.2⟩)
  exact fun y hy=>(this y hy).front
 ·have hj:i-rows.length<items.length:=by simp at hi;omega
  rw[List.getElem_append_right (by omega)]
  have:=(hP.dep items[i-rows.length] (List.getElem_mem hj)).to (w1:=w3) (S1:=I7 W.heap.size w3 s3.blk) (fun k hk=>hblk k hk.2 (fun e=>by have:=hso k e.symm;have:=hk.1;omega)) (fun k hk=>⟨by have:=hk.1;omega,by have:=hk.2;omega,mX k hk.2 (fun e=>by have:=hso k e.symm;have:=hk.1;omega)⟩)
  refine fun y hy=>⟨.slice items[i-rows.length].1.a items[i-rows.length].2.length items[i-rows.length].1.cap,by simp[jK],items[i-rows.length].2,items[i-rows.length].1,?_,rfl,this y hy⟩
  rw[List.getElem?_append_right (by omega),←hr,List.getElem?_map,List.getElem?_eq_getElem hj];rfl
end Go.WW
namespace Go.Proofs.YtibhckkjciflaaaGreatDoor
open Go.RowKit Go.WW
theorem agI(x:aT)(s:Sl)(r:aC)(w:World)(hat:dV w s r x)(hf:wM x):Calls Tryz.prog 12 #[.agg (aH x s r)] w (aU w (qy x)):=by
 have hB0:Below w.heap.size w (w.alloc (.cells (aH x s r) 36)):=az (Below.refl _ _) _
 have ku:=hat.later hB0
 have Uo:=Lib.hid (ET hf hat.2.1.attrs.1)
 have HF:=Lib.hid hf
 have wZ:=Lib.hid (SL hf hat.2.1.attrs.1)
 have f1:=hf.i
 have f2:=hf.t
 have f3:=hf.m
 have f4:=hf.k
 have HAT:=Lib.hid ku
 have HT:=Lib.hid (show qy x=dE (bU 0 (iE x)) from rfl)
 have e1:=jd (v:=x.i.toNat) (k:=7) (by decide) (by simp;omega)
 have e2:=jd (v:=x.t.toNat) (k:=7) (by decide) (by simp;omega)
 have e3:=nM x.m.toNat
 have e4:=jd (v:=x.k.toNat) (k:=7) (by decide) (by simp;omega)
 rw[HT.out]
 clear ku hf hat
 unfold aH at *
 go_enter Tryz.func12,Tryz.ntmps12
 go_wp2_with fail
 refine jr (Below.refl _ (w.alloc (.cells (aj x.i x.t x.m x.k s x.n r x.d x.q x.pn x.f x.a x.b) 36))) (by kernel_rfl) (by kernel_rfl) ?_
 intro v0 hv0
 have hP0:l9 (w.alloc (.cells (aj x.i x.t x.m x.k s x.n r x.d x.q x.pn x.f x.a x.b) 36)) v0 []:=l9.nil hv0
 repeat (first|(refine ah (by rfl) ?_)|(refine ai (by rfl) (by rfl) (fun K hK=>?_);go_big_quiet_op;refine hK _ ?_;clear hK K))
 refine au (by rfl) (by rfl) (fun K hK=>?_)
 go_wp2_with fail
 refine(ru _ _ (by omega) (by omega)).mono ?_
 rintro e v1 ⟨s1,rfl,hb1,hd1⟩
 have hP1:=hP0.mid hb1
 refine hK _ _ (ak hP1.b) ?_
 clear hK K
 repeat (first|(refine ah (by rfl) ?_)|(refine ai (by rfl) (by rfl) (fun K hK=>?_);go_big_quiet_op;refine hK _ ?_;clear hK K))
 refine au (by rfl) (by rfl) (fun K hK=>?_)
 go_wp2_with fail
 refine(eU 0 0 _ _ _ _ rfl (by decide) hd1.out (by omega)).mono ?_
 rintro e v2 ⟨s2,rfl,hb2,hd2⟩
 have hP2:=hP1.add hb2 hd2
 clear hP1 hP0 hb1 hd1 hb2 hd2
 refine hK _ _ (ak hP2.b) ?_
 clear hK K
 repeat (first|(refine ah (by rfl) ?_)|(refine ai (by rfl) (by rfl) (fun K hK=>?_);go_big_quiet_op;refine hK _ ?_;clear hK K))
 refine au (by rfl) (by rfl) (fun K hK=>?_)
 go_wp2_with fail
 refine(ru _ _ (by omega) (by omega)).mono ?_
 rintro e v3 ⟨s3,rfl,hb3,hd3⟩
 have hP3:=hP2.mid hb3
 refine hK _ _ (ak hP3.b) ?_
 clear hK K
 repeat (first|(refine ah (by rfl) ?_)|(refine ai (by rfl) (by rfl) (fun K hK=>?_);go_big_quiet_op;refine hK _ ?_;clear hK K))
 refine au (by rfl) (by rfl) (fun K hK=>?_)
 go_wp2_with fail
 refine(eU 1 1 _ _ _ _ rfl (by decide) hd3.out (by omega)).mono ?_
 rintro e v4 ⟨s4,rfl,hb4,hd4⟩
 have fK:=hP3.add hb4 hd4
 clear hP3 hP2 hb3 hd3 hb4 hd4
 refine hK _ _ (ak fK.b) ?_
 clear hK K
 repeat (first|(refine ah (by rfl) ?_)|(refine ai (by rfl) (by rfl) (fun K hK=>?_);go_big_quiet_op;refine hK _ ?_;clear hK K))
 refine au (by rfl) (by rfl) (fun K hK=>?_)
 go_wp2_with fail
 refine(AZ _ _ f3.1).mono ?_
 rintro e v5 ⟨s5,rfl,hb5,hd5⟩
 have fZ:=fK.mid hb5
 refine hK _ _ (ak fZ.b) ?_
 clear hK K
 repeat (first|(refine ah (by rfl) ?_)|(refine ai (by rfl) (by rfl) (fun K hK=>?_);go_big_quiet_op;refine hK _ ?_;clear hK K))
 refine au (by rfl) (by rfl) (fun K hK=>?_)
 go_wp2_with fail
 refine(eU 2 2 _ _ _ _ rfl (by decide) hd5.out (by omega)).mono ?_
 rintro e v6 ⟨s6,rfl,hb6,hd6⟩
 have jW:=fZ.add hb6 hd6
 clear fZ fK hb5 hd5 hb6 hd6
 refine hK _ _ (ak jW.b) ?_
 clear hK K
 repeat (first|(refine ah (by rfl) ?_)|(refine ai (by rfl) (by rfl) (fun K hK=>?_);go_big_quiet_op;refine hK _ ?_;clear hK K))
 refine au (by rfl) (by rfl) (fun K hK=>?_)
 go_wp2_with fail
 refine(ru _ _ (by omega) (by omega)).mono ?_
 rintro e v7 ⟨s7,rfl,hb7,hd7⟩
 have lV:=jW.mid hb7
 refine hK _ _ (ak lV.b) ?_
 clear hK K
 repeat (first|(refine ah (by rfl) ?_)|(refine ai (by rfl) (by rfl) (fun K hK=>?_);go_big_quiet_op;refine hK _ ?_;clear hK K))
 refine au (by rfl) (by rfl) (fun K hK=>?_)
 go_wp2_with fail
 refine(eU 3 3 _ _ _ _ rfl (by decide) hd7.out (by omega)).mono ?_
 rintro e v8 ⟨s8,rfl,hb8,hd8⟩
 have jX:=lV.add hb8 hd8
 clear lV jW hb7 hd7 hb8 hd8
 refine hK _ _ (ak jX.b) ?_
 clear hK K
 repeat (first|(refine ah (by rfl) ?_)|(refine ai (by rfl) (by rfl) (fun K hK=>?_);go_big_quiet_op;refine hK _ ?_;clear hK K))
 refine au (by rfl) (by rfl) (fun K hK=>?_)
 go_wp2_with fail
 have hH:=jX.lit (T:=41) (items:=[(s2,aB 0 (aA x.i.toNat)),(s4,aB 1 (aA x.t.toNat)),(s6,aB 2 (bf x.m.toNat)),(s8,aB 3 (aA x.k.toNat))]) rfl (by simp)
 have hbn:=az jX.b (.cells (fM [(s2,aB 0 (aA x.i.toNat)),(s4,aB 1 (aA x.t.toNat)),(s6,aB 2 (bf x.m.toNat)),(s8,aB 3 (aA x.k.toNat))]) 41)
 clear jX
 refine hK _ _ (ak hbn) ?_
 clear hK K
 repeat (first|(refine ah (by rfl) ?_)|(refine ai (by rfl) (by rfl) (fun K hK=>?_);go_big_quiet_op;refine hK _ ?_;clear hK K))
 refine iH ?_
 obtain⟨s0,hs0⟩:∃s0:Sl,s0=⟨some ⟨v8.heap.size,0,none⟩,4⟩:=⟨_,rfl⟩
 obtain⟨V1,hV1⟩:∃V,V=v8.alloc (.cells #[.slice s2.a (aB 0 (aA x.i.toNat)).length s2.cap,.slice s4.a (aB 1 (aA x.t.toNat)).length s4.cap,.slice s6.a (aB 2 (bf x.m.toNat)).length s6.cap,.slice s8.a (aB 3 (aA x.k.toNat)).length s8.cap] 41):=⟨_,rfl⟩
 have hH1:fE 41 (w.alloc (.cells (aj x.i x.t x.m x.k s x.n r x.d x.q x.pn x.f x.a x.b) 36)) V1 s0 [aB 0 (aA x.i.toNat),aB 1 (aA x.t.toNat),aB 2 (bf x.m.toNat),aB 3 (aA x.k.toNat)]:=by rw[hV1,hs0];exact hH
 have KE:Below (w.alloc (.cells (aj x.i x.t x.m x.k s x.n r x.d x.q x.pn x.f x.a x.b) 36)).heap.size (w.alloc (.cells (aj x.i x.t x.m x.k s x.n r x.d x.q x.pn x.f x.a x.b) 36)) V1:=by rw[hV1];exact hbn
 rw[show(Value.slice (some ⟨v8.heap.size,0,none⟩) 4 4)=.slice s0.a 4 s0.cap by rw[hs0],←hV1]
 clear hV1 hs0 hH hbn e1 e2 e3 e4
 obtain⟨hcc,ax,hrr⟩:=aK KE
 have hwl:w.heap.size<V1.heap.size:=by have:=KE.size;simp at this;omega
 have KF:dV V1 s r x:=HAT.out.later KE
 rcases(show x.k=1∨x.k=3∨x.k=4∨x.k=2∨x.k=5 by omega)with hk|hk|hk|hk|hk
 have HL:=Lib.hid (show [aB 0 (aA x.i.toNat),aB 1 (aA x.t.toNat),aB 2 (bf x.m.toNat),aB 3 (aA x.k.toNat)]++[aB 4 (dP (jy x.d))]=bU 0 (iE x) by
  rw[show iE x=[aA x.i.toNat,aA x.t.toNat,bf x.m.toNat,aA x.k.toNat]++[dP (jy x.d)] by unfold iE dO;simp[hk]];rfl)
 have Uy:=Lib.hid (Ee (HF.out.put hk) HAT.out.2.1.attrs.1)
 have pR:=Lib.hid (IY Uy.out)
 have q1:(x.k == 1)=true:=by rw[hk];rfl
 have q3:(x.k == 3)=false:=by rw[hk];rfl
 have q4:(x.k == 4)=false:=by rw[hk];rfl
 have q5:(x.k == 5)=false:=by rw[hk];rfl
 have HK:=Lib.hid hk
 clear hk f4
 go_wp2_with fail
 refine(ab2 _ _ _ KF.2.1 Uy.out).mono ?_
 rintro e u1 ⟨t1,rfl,hu1,hx1⟩
 go_wp2_with fail
 refine(Jo _ _ (jy x.d) _ hx1.out (by have:=pR.out;omega)).mono ?_
 rintro e u2 ⟨t2,rfl,hu2,hx2⟩
 go_wp2_with fail
 refine(eU 4 4 _ _ (dP (jy x.d)) _ rfl (by decide) hx2.out (by have:=tN (jy x.d);have:=pR.out;omega)).mono ?_
 rintro e u3 ⟨t3,rfl,hu3,hx3⟩
 have hbz:=af (af hu1 hu2) hu3
 have hdz:=hx3.to (S1:=fresh V1.heap.size u3) (fun _ _=>rfl) (fun j hj=>⟨Nat.le_trans (af hu1 hu2).size hj.1,hj.2⟩)
 clear hu1 hx1 hu2 hx2 hu3 hx3
 obtain⟨L',hL'⟩:∃L',L'=[aB 0 (aA x.i.toNat),aB 1 (aA x.t.toNat),aB 2 (bf x.m.toNat),aB 3 (aA x.k.toNat)]++[aB 4 (dP (jy x.d))]:=⟨_,rfl⟩
 have HA:=Lib.hid hL'
 have hLn:L'.length≤5:=by rw[hL'];exact Nat.le_refl _
 rw[←hL']at HL
 clear hL'
 go_wp2_with (at_builtin;refine lg (L:=L') rfl _ _ _ rfl jM hH1 hbz hdz rfl rfl rfl rfl HA.out (by omega) ?_;intro s9 w9 jO;clear hcc ax hrr hH1;have aZ:=jO.b;obtain⟨hcc,ax,hrr⟩:=aK aZ;have Fa:w.heap.size<w9.heap.size:=(by have:=aZ.size;simp at this;omega))
 have hh:=(jO.hist (by unfold lim;omega)).out
 have hfl:L'.flatten.length≤1000000:=by rw[HL.out];exact wZ.out
 refine(lU _ _ L' _ hh hfl).mono ?_
 intro e vz h4
 obtain⟨sz,rfl,BP,BQ⟩:=aU.from h4 (af hB0 aZ)
 clear hh jO hcc ax hrr
 rotate_left
 have HL:=Lib.hid (show [aB 0 (aA x.i.toNat),aB 1 (aA x.t.toNat),aB 2 (bf x.m.toNat),aB 3 (aA x.k.toNat)]++[aB 4 (bM (jY x.q))]=bU 0 (iE x) by
  rw[show iE x=[aA x.i.toNat,aA x.t.toNat,bf x.m.toNat,aA x.k.toNat]++[bM (jY x.q)] by unfold iE dO;simp[hk]];rfl)
 have Uz:=Lib.hid (EP (HF.out.BH hk))
 have pR:=Lib.hid (J4 Uz.out)
 have q1:(x.k == 1)=false:=by rw[hk];rfl
 have q3:(x.k == 3)=true:=by rw[hk];rfl
 have q4:(x.k == 4)=false:=by rw[hk];rfl
 have q5:(x.k == 5)=false:=by rw[hk];rfl
 have HK:=Lib.hid hk
 clear hk f4
 go_wp2_with fail
 refine(ad7 _ _ Uz.out).mono ?_
 rintro e u1 ⟨rfl,hu1⟩
 go_wp2_with fail
 refine(yD _ _ (by have:=pR.out;omega)).mono ?_
 rintro e u2 ⟨t2,rfl,hu2,hx2⟩
 go_wp2_with fail
 refine(eU 4 4 _ _ (bM (jY x.q)) _ rfl (by decide) hx2.out (by have:=qU (jY x.q);have:=pR.out;omega)).mono ?_
 rintro e u3 ⟨t3,rfl,hu3,hx3⟩
 have hbz:=af (af hu1 hu2) hu3
 have hdz:=hx3.to (S1:=fresh V1.heap.size u3) (fun _ _=>rfl) (fun j hj=>⟨Nat.le_trans (af hu1 hu2).size hj.1,hj.2⟩)
 clear hu1 hu2 hx2 hu3 hx3
 obtain⟨L',hL'⟩:∃L',L'=[aB 0 (aA x.i.toNat),aB 1 (aA x.t.toNat),aB 2 (bf x.m.toNat),aB 3 (aA x.k.toNat)]++[aB 4 (bM (jY x.q))]:=⟨_,rfl⟩
 have HA:=Lib.hid hL'
 have hLn:L'.length≤5:=by rw[hL'];exact Nat.le_refl _
 rw[←hL']at HL
 clear hL'
 go_wp2_with (at_builtin;refine lg (L:=L') rfl _ _ _ rfl jM hH1 hbz hdz rfl rfl rfl rfl HA.out (by omega) ?_;intro s9 w9 jO;clear hcc ax hrr hH1;have aZ:=jO.b;obtain⟨hcc,ax,hrr⟩:=aK aZ;have Fa:w.heap.size<w9.heap.size:=(by have:=aZ.size;simp at this;omega))
 have hh:=(jO.hist (by unfold lim;omega)).out
 have hfl:L'.flatten.length≤1000000:=by rw[HL.out];exact wZ.out
 refine(lU _ _ L' _ hh hfl).mono ?_
 intro e vz h4
 obtain⟨sz,rfl,BP,BQ⟩:=aU.from h4 (af hB0 aZ)
 clear hh jO hcc ax hrr
 rotate_left
 have HL:=Lib.hid (show [aB 0 (aA x.i.toNat),aB 1 (aA x.t.toNat),aB 2 (bf x.m.toNat),aB 3 (aA x.k.toNat)]++[aB 4 (bM x.pn)]=bU 0 (iE x) by
  rw[show iE x=[aA x.i.toNat,aA x.t.toNat,bf x.m.toNat,aA x.k.toNat]++[bM x.pn] by unfold iE dO;simp[hk]];rfl)
 have pR:=Lib.hid (HF.out.J3 hk)
 have q1:(x.k == 1)=false:=by rw[hk];rfl
 have q3:(x.k == 3)=false:=by rw[hk];rfl
 have q4:(x.k == 4)=true:=by rw[hk];rfl
 have q5:(x.k == 5)=false:=by rw[hk];rfl
 have HK:=Lib.hid hk
 clear hk f4
 go_wp2_with fail
 refine(yD _ _ (by have:=pR.out;omega)).mono ?_
 rintro e u2 ⟨t2,rfl,hu2,hx2⟩
 go_wp2_with fail
 refine(eU 4 4 _ _ (bM x.pn) _ rfl (by decide) hx2.out (by have:=qU x.pn;have:=pR.out;omega)).mono ?_
 rintro e u3 ⟨t3,rfl,hu3,hx3⟩
 have hbz:=af hu2 hu3
 have hdz:=hx3.to (S1:=fresh V1.heap.size u3) (fun _ _=>rfl) (fun j hj=>⟨Nat.le_trans hu2.size hj.1,hj.2⟩)
 clear hu2 hx2 hu3 hx3
 obtain⟨L',hL'⟩:∃L',L'=[aB 0 (aA x.i.toNat),aB 1 (aA x.t.toNat),aB 2 (bf x.m.toNat),aB 3 (aA x.k.toNat)]++[aB 4 (bM x.pn)]:=⟨_,rfl⟩
 have HA:=Lib.hid hL'
 have hLn:L'.length≤5:=by rw[hL'];exact Nat.le_refl _
 rw[←hL']at HL
 clear hL'
 go_wp2_with (at_builtin;refine lg (L:=L') rfl _ _ _ rfl jM hH1 hbz hdz rfl rfl rfl rfl HA.out (by omega) ?_;intro s9 w9 jO;clear hcc ax hrr hH1;have aZ:=jO.b;obtain⟨hcc,ax,hrr⟩:=aK aZ;have Fa:w.heap.size<w9.heap.size:=(by have:=aZ.size;simp at this;omega))
 have hh:=(jO.hist (by unfold lim;omega)).out
 have hfl:L'.flatten.length≤1000000:=by rw[HL.out];exact wZ.out
 refine(lU _ _ L' _ hh hfl).mono ?_
 intro e vz h4
 obtain⟨sz,rfl,BP,BQ⟩:=aU.from h4 (af hB0 aZ)
 clear hh jO hcc ax hrr
 rotate_left
 have HL:=Lib.hid (show [aB 0 (aA x.i.toNat),aB 1 (aA x.t.toNat),aB 2 (bf x.m.toNat),aB 3 (aA x.k.toNat)]++[aB 4 (bP x.n)]=bU 0 (iE x) by
  rw[show iE x=[aA x.i.toNat,aA x.t.toNat,bf x.m.toNat,aA x.k.toNat]++[bP x.n] by unfold iE dO;simp[hk]];rfl)
 have pR:=Lib.hid (HF.out.rem hk)
 have q1:(x.k == 1)=false:=by rw[hk];rfl
 have q3:(x.k == 3)=false:=by rw[hk];rfl
 have q4:(x.k == 4)=false:=by rw[hk];rfl
 have q5:(x.k == 5)=false:=by rw[hk];rfl
 have HK:=Lib.hid hk
 clear hk f4
 go_wp2_with fail
 refine(Eu _ _ _ KF.1 pR.out).mono ?_
 rintro e u2 ⟨t2,rfl,hu2,hx2⟩
 go_wp2_with fail
 refine(eU 4 4 _ _ (bP x.n) _ rfl (by decide) hx2.out (Nat.le_trans (qW pR.out) (by decide))).mono ?_
 rintro e u3 ⟨t3,rfl,hu3,hx3⟩
 have hbz:=af hu2 hu3
 have hdz:=hx3.to (S1:=fresh V1.heap.size u3) (fun _ _=>rfl) (fun j hj=>⟨Nat.le_trans hu2.size hj.1,hj.2⟩)
 clear hu2 hx2 hu3 hx3
 obtain⟨L',hL'⟩:∃L',L'=[aB 0 (aA x.i.toNat),aB 1 (aA x.t.toNat),aB 2 (bf x.m.toNat),aB 3 (aA x.k.toNat)]++[aB 4 (bP x.n)]:=⟨_,rfl⟩
 have HA:=Lib.hid hL'
 have hLn:L'.length≤5:=by rw[hL'];exact Nat.le_refl _
 rw[←hL']at HL
 clear hL'
 go_wp2_with (at_builtin;refine lg (L:=L') rfl _ _ _ rfl jM hH1 hbz hdz rfl rfl rfl rfl HA.out (by omega) ?_;intro s9 w9 jO;clear hcc ax hrr hH1;have aZ:=jO.b;obtain⟨hcc,ax,hrr⟩:=aK aZ;have Fa:w.heap.size<w9.heap.size:=(by have:=aZ.size;simp at this;omega))
 have hh:=(jO.hist (by unfold lim;omega)).out
 have hfl:L'.flatten.length≤1000000:=by rw[HL.out];exact wZ.out
 refine(lU _ _ L' _ hh hfl).mono ?_
 intro e vz h4
 obtain⟨sz,rfl,BP,BQ⟩:=aU.from h4 (af hB0 aZ)
 clear hh jO hcc ax hrr
 rotate_left
 have HL:=Lib.hid (show([aB 0 (aA x.i.toNat),aB 1 (aA x.t.toNat),aB 2 (bf x.m.toNat),aB 3 (aA x.k.toNat)]++[aB 4 (bP x.n)])++[aB 5 (aA x.f.toNat),aB 6 (bf x.a.toNat),aB 7 (bf x.b.toNat)]=bU 0 (iE x) by
  rw[show iE x=[aA x.i.toNat,aA x.t.toNat,bf x.m.toNat,aA x.k.toNat]++[bP x.n,aA x.f.toNat,bf x.a.toNat,bf x.b.toNat] by unfold iE dO;simp[hk]];rfl)
 have HE:=Lib.hid (HF.out.touch hk)
 have e5:=jd (v:=x.f.toNat) (k:=3) (by decide) (by have:=HE.out.2.1;simp;omega)
 have e6:=nM x.a.toNat
 have e7:=nM x.b.toNat
 have q1:(x.k == 1)=false:=by rw[hk];rfl
 have q3:(x.k == 3)=false:=by rw[hk];rfl
 have q4:(x.k == 4)=false:=by rw[hk];rfl
 have q5:(x.k == 5)=true:=by rw[hk];rfl
 have HK:=Lib.hid hk
 clear hk f4
 go_wp2_with fail
 refine(Eu _ _ _ KF.1 HE.out.1).mono ?_
 rintro e u2 ⟨t2,rfl,hu2,hx2⟩
 go_wp2_with fail
 refine(eU 4 4 _ _ (bP x.n) _ rfl (by decide) hx2.out (Nat.le_trans (qW HE.out.1) (by decide))).mono ?_
 rintro e u3 ⟨t3,rfl,hu3,hx3⟩
 have hbz:=af hu2 hu3
 have hdz:=hx3.to (S1:=fresh V1.heap.size u3) (fun _ _=>rfl) (fun j hj=>⟨Nat.le_trans hu2.size hj.1,hj.2⟩)
 clear hu2 hx2 hu3 hx3
 obtain⟨L',hL'⟩:∃L',L'=[aB 0 (aA x.i.toNat),aB 1 (aA x.t.toNat),aB 2 (bf x.m.toNat),aB 3 (aA x.k.toNat)]++[aB 4 (bP x.n)]:=⟨_,rfl⟩
 have HA:=Lib.hid hL'
 have hLn:L'.length≤5:=by rw[hL'];exact Nat.le_refl _
 rw[←hL']at HL
 clear hL'
 go_wp2_with (at_builtin;refine lg (L:=L') rfl _ _ _ rfl jM hH1 hbz hdz rfl rfl rfl rfl HA.out (by omega) ?_;intro s9 w9 jO;clear hcc ax hrr hH1;have aZ:=jO.b;obtain⟨hcc,ax,hrr⟩:=aK aZ;have Fa:w.heap.size<w9.heap.size:=(by have:=aZ.size;simp at this;omega))
 have hy0:Below w9.heap.size w9 w9.drew:=(Below.refl _ _).drew
 refine D6 (since (w.alloc (.cells (aj x.i x.t x.m x.k s x.n r x.d x.q x.pn x.f x.a x.b) 36))) looks (by kernel_rfl) (by kernel_rfl) ⟨⟨_,aZ.drew⟩,rfl⟩ ?_
 obtain⟨y0,hy⟩:∃y0,y0=w9.drew:=⟨_,rfl⟩
 rw[←hy]at hy0 ⊢
 clear hy
 have hR0:l9 w9 y0 []:=l9.nil hy0
 repeat (first|(refine ah (by rfl) ?_)|(refine ai (by rfl) (by rfl) (fun K hK=>?_);go_big_quiet_op;refine hK _ ?_;clear hK K))
 refine au (by rfl) (by rfl) (fun K hK=>?_)
 go_wp2_with fail
 refine(ru _ _ HE.out.2.1.1 (by have:=HE.out.2.1;omega)).mono ?_
 rintro e y1 ⟨z1,rfl,hc1,hd1⟩
 have hR1:=hR0.mid hc1
 refine hK _ _ (ak (af aZ hR1.b)) ?_
 clear hK K
 repeat (first|(refine ah (by rfl) ?_)|(refine ai (by rfl) (by rfl) (fun K hK=>?_);go_big_quiet_op;refine hK _ ?_;clear hK K))
 refine au (by rfl) (by rfl) (fun K hK=>?_)
 go_wp2_with fail
 refine(eU 5 5 _ _ _ _ rfl (by decide) hd1.out (by omega)).mono ?_
 rintro e y2 ⟨z2,rfl,hc2,hd2⟩
 have hR2:=hR1.add hc2 hd2
 clear hR0 hR1 hc1 hd1 hc2 hd2
 refine hK _ _ (ak (af aZ hR2.b)) ?_
 clear hK K
 repeat (first|(refine ah (by rfl) ?_)|(refine ai (by rfl) (by rfl) (fun K hK=>?_);go_big_quiet_op;refine hK _ ?_;clear hK K))
 refine au (by rfl) (by rfl) (fun K hK=>?_)
 go_wp2_with fail
 refine(AZ _ _ HE.out.2.2.1.1).mono ?_
 rintro e y3 ⟨z3,rfl,hc3,hd3⟩
 have iD:=hR2.mid hc3
 refine hK _ _ (ak (af aZ iD.b)) ?_
 clear hK K
 repeat (first|(refine ah (by rfl) ?_)|(refine ai (by rfl) (by rfl) (fun K hK=>?_);go_big_quiet_op;refine hK _ ?_;clear hK K))
 refine au (by rfl) (by rfl) (fun K hK=>?_)
 go_wp2_with fail
 refine(eU 6 6 _ _ _ _ rfl (by decide) hd3.out (by omega)).mono ?_
 rintro e y4 ⟨z4,rfl,hc4,hd4⟩
 have KG:=iD.add hc4 hd4
 clear hR2 iD hc3 hd3 hc4 hd4
 refine hK _ _ (ak (af aZ KG.b)) ?_
 clear hK K
 repeat (first|(refine ah (by rfl) ?_)|(refine ai (by rfl) (by rfl) (fun K hK=>?_);go_big_quiet_op;refine hK _ ?_;clear hK K))
 refine au (by rfl) (by rfl) (fun K hK=>?_)
 go_wp2_with fail
 refine(AZ _ _ HE.out.2.2.2.1).mono ?_
 rintro e y5 ⟨z5,rfl,hc5,hd5⟩
 have KH:=KG.mid hc5
 refine hK _ _ (ak (af aZ KH.b)) ?_
 clear hK K
 repeat (first|(refine ah (by rfl) ?_)|(refine ai (by rfl) (by rfl) (fun K hK=>?_);go_big_quiet_op;refine hK _ ?_;clear hK K))
 refine au (by rfl) (by rfl) (fun K hK=>?_)
 go_wp2_with fail
 refine(eU 7 7 _ _ _ _ rfl (by decide) hd5.out (by omega)).mono ?_
 rintro e y6 ⟨z6,rfl,hc6,hd6⟩
 have Fb:=KH.add hc6 hd6
 clear KG KH hc5 hd5 hc6 hd6
 refine hK _ _ (ak (af aZ Fb.b)) ?_
 clear hK K
 repeat (first|(refine ah (by rfl) ?_)|(refine ai (by rfl) (by rfl) (fun K hK=>?_);go_big_quiet_op;refine hK _ ?_;clear hK K))
 refine au (by rfl) (by rfl) (fun K hK=>?_)
 go_wp2_with fail
 refine hK _ _ (ak (af aZ (az Fb.b _))) ?_
 clear hK K
 repeat (first|(refine ah (by rfl) ?_)|(refine ai (by rfl) (by rfl) (fun K hK=>?_);go_big_quiet_op;refine hK _ ?_;clear hK K))
 refine au (by rfl) (by rfl) (fun K hK=>?_)
 obtain⟨M,hM⟩:∃M,M=L'++[aB 5 (aA x.f.toNat),aB 6 (bf x.a.toNat),aB 7 (bf x.b.toNat)]:=⟨_,rfl⟩
 have HM:=Lib.hid hM
 have hMn:M.length≤8:=by rw[hM,List.length_append];simp;omega
 rw[←hM]at HL
 clear hM
 refine agH (L:=M) _ _ _ rfl jM jO Fb rfl rfl rfl rfl rfl HM.out (by omega) rfl ?_
 intro sa wa KI
 have hba:=KI.b
 clear hcc ax hrr jO Fb aZ
 go_wp2_with fail
 refine hK _ _ (ak hba) ?_
 clear hK K
 repeat (first|(refine ah (by rfl) ?_)|(refine ai (by rfl) (by rfl) (fun K hK=>?_);go_big_quiet_op;refine hK _ ?_;clear hK K))
 refine iH ?_
 have hh:=(KI.hist (by unfold lim;omega)).out
 have hfl:M.flatten.length≤1000000:=by rw[HL.out];exact wZ.out
 go_wp2_with fail
 refine(lU _ _ M _ hh hfl).mono ?_
 intro e vz h4
 obtain⟨sz,rfl,BP,BQ⟩:=aU.from h4 (af hB0 hba)
 clear hh KI
 rotate_left
 all_goals
  go_wp2_with fail
  go_ret
  rw[←HL.out]
  exact⟨sz,rfl,BP,BQ⟩
end Go.Proofs.YtibhckkjciflaaaGreatDoor
namespace Go.WW
open Go.RowKit
def KJ(x:Int)(n:Nat):Int:=bits .or .u32 (x*2 ^ n % 4294967296) (x / 2 ^ (32-n))
def xf(x:Int)(ps:List Nat):Int:=ps.foldl (fun y p=>bits .xor .u32 y (KJ x (32-p))) 0
theorem agJ(x:Int)(ps:List Nat)(k:Nat)(h:k<ps.length):xf x (ps.take (k+1))=bits .xor .u32 (xf x (ps.take k)) (KJ x (32-ps[k])):=by
 unfold xf
 rw[List.take_succ_eq_append_getElem h,List.foldl_append];rfl
theorem agK:∀p:Fin 31,bits .and .u64 (IntKind.u64.wrap (-((p.val:Int)+1))) 31=((31-p.val:Nat):Int):=by decide +kernel
theorem agL(p:Nat)(h:1≤p∧p≤31):bits .and .u64 (IntKind.u64.wrap (-(p:Int))) 31=((32-p:Nat):Int):=by
 have:=agK ⟨p-1,by omega⟩
 have e:((p-1:Nat):Int)+1=(p:Int):=by omega
 simp only[e]at this
 rw[this];congr 1;omega
end Go.WW
namespace Go.Proofs.YtibhckkjciflaaaGreatDoor
open Go.RowKit Go.WW
theorem agM(x k:Int)(n:Nat)(hn:n≤31)(hk:bits .and .u64 (IntKind.u64.wrap k) 31=(n:Int))(w:World):Calls Tryz.prog 187 #[.int .u32 x,.int .i64 k] w fun e w'=>e=.returned (.int .u32 (KJ x n))∧w=w':=by
 have h0:(0:Int)≤(n:Int):=by omega
 have h1:(n:Int)≤32:=by omega
 have h2:(0:Int)≤32-(n:Int):=by omega
 have h3:(32:Int)-(n:Int)≤32:=by omega
 go_enter Tryz.func187,Tryz.ntmps187
 go_wp2
 go_ret
 exact⟨rfl,rfl⟩
theorem agN(x:Int)(b o cap:Nat)(ps:List Nat)(hp:∀p∈ps,1≤p∧p≤31)(hl:ps.length≤64)(w:World)(hc:∀i (h:i<ps.length),w.cell? ⟨b,o+i,none⟩=some (.int .i64 (ps[i]:Nat))) :
  Calls Tryz.prog 159 #[.int .u32 x,.slice (some ⟨b,o,none⟩) ps.length cap] w fun e w'=>e=.returned (.int .u32 (xf x ps))∧w=w':=by
 have HC:=Lib.hid hc
 have HP:=Lib.hid hp
 clear hc hp
 go_enter Tryz.func159,Tryz.ntmps159
 go_wp2_with fail
 go_loop [4,9] (fun y i=>∃k:Nat,k≤ps.length∧i=.int .i64 k∧y=.int .u32 (xf x (ps.take k))) (fun _ i=>ps.length-(intOf i).toNat)
 case atStart=>exact⟨0,Nat.zero_le _,rfl,rfl⟩
 case round=>
  obtain⟨k,hk,rfl,rfl⟩:=hrel
  by_cases hlt:k<ps.length
  ·have hcell:=HC.out k hlt
   have hpk:=HP.out ps[k] (List.getElem_mem hlt)
   have HS:=Lib.hid (agJ x ps k hlt)
   have hgb:b<w.heap.size:=World.block_lt_of_cell? w _ hcell
   have HN:=Lib.hid (agL ps[k] hpk)
   go_wp2_with (go_at_call 187;refine(agM _ _ (32-ps[k]) (by omega) HN.out _).mono ?_;rintro e w' ⟨rfl,rfl⟩)
   go_round
   case rel=>exact⟨k+1,by omega,by go_num,by rw[HS.out]⟩
   case measure=>simp[intOf];omega
  ·have HE:=Lib.hid (show xf x (ps.take k)=xf x ps by rw[List.take_of_length_le (by omega)])
   go_wp2_with fail
   go_ret
   exact⟨by rw[←HE.out];rfl,rfl⟩
theorem agO(x y z:Int)(w:World):Calls Tryz.prog 160 #[.int .u32 x,.int .u32 y,.int .u32 z] w fun e w'=>e=.returned (.int .u32 (bits .xor .u32 (bits .and .u32 x y) (bits .and .u32 (bits .xor .u32 IntKind.u32.max x) z)))∧w=w':=by
 go_enter Tryz.func160,Tryz.ntmps160
 go_wp2
 go_ret
 exact⟨rfl,rfl⟩
end Go.Proofs.YtibhckkjciflaaaGreatDoor
namespace Go.Proofs
open Go.RowKit
theorem Tryz.cloneS(b:Nat)(es:Array MapEntry)(clock:Nat)(w:World)(hb:w.heap[b]?=some (.map es clock)) :
  Calls Tryz.prog 125 #[.map (some b)] w fun e w'=>e=.returned (.map (some w.heap.size))∧w'=w.alloc (.map es clock):=by
 have hq:=fun w=>run_eql_map_nil_sl (P:=Tryz.prog) w 92 _ _ (some b) Tryz.underlying92
 go_enter Tryz.func125,Tryz.ntmps125
 go_wp2
 rw[run_callFunc_extern Tryz.func167 (by kernel_rfl) (by kernel_rfl) (by kernel_rfl) (e:=Extern.MapsClone.clone) (by kernel_rfl),run_maps_clone_sl w 92 hb]
 simp only[Result.andThen]
 rw[Oper.upon_value]
 go_wp2
 rw[run_typeAssert_map_sl _ 92 20 _ _ _ Tryz.underlying92]
 simp only[Result.andThen]
 rw[Oper.upon_value]
 go_wp2
 go_ret
 exact⟨rfl,rfl⟩
theorem Tryz.agP(b:Nat)(es:Array MapEntry)(clock:Nat)(w:World)(hb:w.heap[b]?=some (.map es clock)) :
  Calls Tryz.prog 126 #[.map (some b)] w fun e w'=>e=.returned (.map (some w.heap.size))∧w'=w.alloc (.map es clock):=by
 have hq:=fun w=>run_eql_map_nil_sl (P:=Tryz.prog) w 93 _ _ (some b) Tryz.underlying93
 go_enter Tryz.func126,Tryz.ntmps126
 go_wp2
 rw[run_callFunc_extern Tryz.func167 (by kernel_rfl) (by kernel_rfl) (by kernel_rfl) (e:=Extern.MapsClone.clone) (by kernel_rfl),run_maps_clone_sl w 93 hb]
 simp only[Result.andThen]
 rw[Oper.upon_value]
 go_wp2
 rw[run_typeAssert_map_sl _ 93 20 _ _ _ Tryz.underlying93]
 simp only[Result.andThen]
 rw[Oper.upon_value]
 go_wp2
 go_ret
 exact⟨rfl,rfl⟩
theorem Tryz.agQ(b:Nat)(es:Array MapEntry)(clock:Nat)(w:World)(hb:w.heap[b]?=some (.map es clock)) :
  Calls Tryz.prog 127 #[.map (some b)] w fun e w'=>e=.returned (.map (some w.heap.size))∧w'=w.alloc (.map es clock):=by
 have hq:=fun w=>run_eql_map_nil_sl (P:=Tryz.prog) w 94 _ _ (some b) Tryz.underlying94
 go_enter Tryz.func127,Tryz.ntmps127
 go_wp2
 rw[run_callFunc_extern Tryz.func167 (by kernel_rfl) (by kernel_rfl) (by kernel_rfl) (e:=Extern.MapsClone.clone) (by kernel_rfl),run_maps_clone_sl w 94 hb]
 simp only[Result.andThen]
 rw[Oper.upon_value]
 go_wp2
 rw[run_typeAssert_map_sl _ 94 20 _ _ _ Tryz.underlying94]
 simp only[Result.andThen]
 rw[Oper.upon_value]
 go_wp2
 go_ret
 exact⟨rfl,rfl⟩
end Go.Proofs
