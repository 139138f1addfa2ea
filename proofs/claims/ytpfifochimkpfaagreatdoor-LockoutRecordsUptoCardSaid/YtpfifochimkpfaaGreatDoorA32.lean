/- A part of the proof. -/
import Derived.Test.YtpfifochimkpfaaGreatDoorA23
import Derived.Test.YtpfifochimkpfaaGreatDoorA24
import Derived.Test.YtpfifochimkpfaaGreatDoorA30
import Derived.Test.YtpfifochimkpfaaGreatDoorA31
import Derived.Test.YtpfifochimkpfaaGreatDoorA21
import Derived.Test.YtpfifochimkpfaaGreatDoorA15
import Derived.Test.YtpfifochimkpfaaGreatDoorA05
import Derived.Test.YtpfifochimkpfaaGreatDoorA07
import Derived.Test.YtpfifochimkpfaaGreatDoorA12
import Derived.Test.YtpfifochimkpfaaGreatDoorA10
import Derived.Test.YtpfifochimkpfaaGreatDoorRows
import Derived.Deep.Slices
import Derived.ChangeArms
import Derived.ProofKit
import Derived.OpenShut
import Derived.Carry
import Derived.Deep.DeepHandedRow
import Derived.Test.YtpfifochimkpfaaGreatDoorA02
set_option maxRecDepth 2000000
set_option maxHeartbeats 4000000
namespace Go.WW
open Go.RowKit
def O1(s:Sl):aK:={bg with parts:=s}
def O3(q:aH):Entry:={aV with name:=q}
theorem alC{w:World}{s:Sl}{q:aH}(h:bK w s q):aS w (O1 s) (O3 q):=by
 have z:=FY w
 exact⟨h,z.aliases,z.keys,z.targets,z.bW,z.history,z.aP,z.attrs⟩
theorem alD{d:Entry}{p:ah}{now:Int}(s:Bool)(hd:bI d=true)(hsm:Small d p)(ht:jc now=true):jD (jV d p s now) (mJ d s now) (mM d s now)=true:=by
 obtain⟨hc0,hc1⟩:=FX now hsm
 have h1:=hsm.l0
 have h2:=hsm.l1
 simp only[bI,jl,jc,aC,Bool.and_eq_true,decide_eq_true_eq]at hd ht
 obtain⟨-,-,h3⟩:=hd
 obtain⟨h4,h5⟩:=ht
 unfold jD jV mJ mM aC
 simp only[Bool.and_eq_true,decide_eq_true_eq]
 cases s
 iterate 2
  ·refine⟨⟨⟨?_,?_⟩,?_,?_⟩,?_,?_⟩<;>simp<;>omega
theorem alE(D:Db){X:List EE}(hD:D.entries=X.map (·.2))(q:aH)(s:Bool)(now:Int):∃no D' X',Bo D X q s now no D' X':=by
 cases hv:(aZ q&&jc now)with
 |false=>exact⟨_,_,_,.bad hv⟩
 |true=>
  rcases Ip hD q with⟨-,hn⟩|⟨i,hi,-,hn⟩
  ·exact⟨_,_,_,.none hv hn⟩
  ·cases hl:fZ X[i].2 (eu D.aF X[i].2) now with
   |true=>exact⟨_,_,_,.locked hv i hi hn hl⟩
   |false=>
    obtain⟨no,D',X',ht⟩:=ahu D X q (jV X[i].2 (eu D.aF X[i].2) s now) (mJ X[i].2 s now) (mM X[i].2 s now)
    exact⟨_,_,_,.yes hv i hi hn hl no D' X' ht⟩
theorem Yi{D:Db}{X:List EE}(hD:D.entries=X.map (·.2))(hg:iR (X.map (·.2))){q:aH}{i:Nat}(hi:i<X.length)(hn:bD X[i].2.name q=true):idxOf (fun z=>bD z.name q) D.entries=(i:Int):=by
 rcases Ip hD q with⟨-,h0⟩|⟨j,hj,h1,h2⟩
 ·rw[h0 _ (List.getElem_mem hi)]at hn;cases hn
 ·obtain rfl:=aiz hg hj hi h2 hn
  exact h1
theorem alF{D:Db}{X:List EE}(hD:D.entries=X.map (·.2)){q:aH}(hn:∀x∈X,bD x.2.name q=false):idxOf (fun z=>bD z.name q) D.entries=-1:=by
 rcases Ip hD q with⟨h0,-⟩|⟨j,hj,h1,h2⟩
 ·exact h0
 ·rw[hn _ (List.getElem_mem hj)]at h2;cases h2
theorem alG{D D':Db}{X X':List EE}{q:aH}{f a b no:Int}(h:rF D X q f a b no D' X')(hv:jD f a b=true){i:Nat}(hi:i<X.length)(hn:bD X[i].2.name q=true):no=0:=by
 cases h with
 |bad hv'=>rw[hv]at hv';cases hv'
 |none _ h0=>rw[h0 _ (List.getElem_mem hi)]at hn;cases hn
 |yes=>rfl
end Go.WW
namespace Go.Proofs.YtpfifochimkpfaaGreatDoor
open Go.RowKit Go.WW
theorem alH(s:Sl)(q:aH)(w:World):(iI 44 #[(0,.agg (az s q))]).run Tryz.prog w=.ok (.value (.agg (ae (O1 s) (O3 q)))) w:=by kernel_rfl
attribute [go_sem] alH
structure uN(w:World)(T b n e p N:Nat)(es ps:Sl)(D:Db)(X:List EE)(wr:World):Prop where
 box:wr.heap[T]?=some (.cells (aA es ps D) 30)
 kE:nR (fun j=>aW b n e p j∨j=T) b n e p dF es ps D X N wr
 out:Below w.heap.size w wr
 fr:∀j,aW b n e p j→w.heap.size≤j∧j≠T
 bT:w.heap.size≤T
 x10:X.length≤10
 p10:D.aF.length≤10
section
variable {w wr:World} {T b n e p N:Nat} {es ps:Sl} {D:Db} {X:List EE}
theorem uN.later(h:uN w T b n e p N es ps D X wr){v:World}(hb:Below wr.heap.size wr v):uN w T b n e p N es ps D X v:=
 ⟨aI hb h.box,h.kE.later hb,ag h.out hb,h.fr,h.bT,h.x10,h.p10⟩
theorem uN.lt(h:uN w T b n e p N es ps D X wr):T<wr.heap.size:=(Array.getElem?_eq_some_iff.1 h.box).1
theorem uN.next(h:uN w T b n e p N es ps D X wr){V1 V2 U:World}(h1:Below wr.heap.size wr V1)(h2:But (aW b n e p) V1 V2){D':Db}{X':List EE}{iL:List (ByteArray×ByteArray)}{E':List EE}{P':List ah}{es':Sl}
  (hP:jW (fun j=>aW b n e p j∨j=T) b n e p dF D'.aN iL E' P' V2) (hR:fO D' X' iL E' P') (h3:But (one T) V2 U) (hbox:U.heap[T]?=some (.cells (aA es' ps D') 30)) (hF:gG (fun j=>aW b n e p j∨j=T) es' ps D' X' U)
  (hre:D'.aJ=D.aJ) (hs0:D.aN≤D'.aN) (hs1:D'.aN≤D.aN+1) (hx:X'.length≤X.length) (hp:D'.aF=D.aF):uN w T b n e p (N+1) es' ps D' X' U:=by
 have d0:=h.kE.d0
 have d1:=h.kE.d1
 have n1:=h.kE.n1
 have n2:=h.kE.n2
 have x10:=h.x10
 have p10:=h.p10
 have hd:nR (fun j=>aW b n e p j∨j=T) b n e p dF es' ps D' X' (N+1) U:=by
  refine⟨⟨iL,E',P',hP.off h3 (fun k hk=>.inr hk) (fun k hk hd=>(h.fr k hd).2 hk),hR⟩,hF,hre.trans h.kE.aJ,fun j hj=>?_,by rw[hp];exact h.kE.sort,by omega,by push_cast;omega,by omega,by rw[hp];omega⟩
  rcases hj with hj|rfl
  ·have:=hP.lt j hj;have:=h3.size;omega
  ·exact(Array.getElem?_eq_some_iff.1 hbox).1
 refine⟨hbox,hd,?_,h.fr,h.bT,by omega,by rw[hp];exact p10⟩
 have a1:But (fun j=>w.heap.size≤j) w V1:=But.of_below (ag h.out h1)
 have a2:=(a1.trans (h2.mono fun j hj=>(h.fr j hj).1)).trans (h3.mono (S':=fun j=>w.heap.size≤j) fun j (hj:j=T)=>by rw[hj];exact h.bT)
 exact a2.below (Nat.le_refl _) fun j hj=>hj
end
theorem Yj{S:Nat→Prop}{b n e p N:Nat}{es ps:Sl}{D:Db}{X:List EE}{w:World}(h:nR S b n e p dF es ps D X N w)(hN:N≤60):Eh D:=by
 obtain⟨NL,E,P,-,hR⟩:=h.ex
 refine⟨by rw[h.aJ];decide,h.d0,hR.dJ.ok,fun d hd=>?_,by have:=h.n2;omega,by rw[hR.eq,List.length_map];have:=h.n1;omega⟩
 rw[hR.eq]at hd
 obtain⟨x,hx,rfl⟩:=List.mem_map.1 hd
 exact NM (hR.rE.ok _ (List.mem_map.2 ⟨x,hx,rfl⟩)) ((h.ref.dS.out.each x hx).attrs.1)
theorem Jd{S:Nat→Prop}{b n e p N:Nat}{es ps:Sl}{D:Db}{X:List EE}{w:World}(h:nR S b n e p dF es ps D X N w)(hN:N≤60)(hx:X.length≤10)(hp:D.aF.length≤10)(ht:BJ Tryz.prog w) :
  Calls Tryz.prog 17 #[.pointer (some ⟨b,0,none⟩)] w (bG w (jX D)):=by
 obtain⟨NL,E,P,hP,hR⟩:=h.ex
 have hE:E.length=X.length:=by have:=hR.perm.length_eq;simpa using this
 exact ak8 b n e p dF NL E P D X w hP.db Bi h.aJ hR h.sort (fun x hx=>(hP.keep x hx).out) (Yj h hN) (by omega) (by have:=hR.dJ.perm.length_eq;omega) (by have:=h.d1;omega) ht
theorem Je{S:Nat→Prop}{b n e p N:Nat}{es ps:Sl}{D:Db}{X:List EE}{w:World}(h:nR S b n e p dF es ps D X N w)(hN:N≤60):Calls Tryz.prog 18 #[.agg (aA es ps D)] w (bG w (jX D)):=by
 have hok:=Yj h hN
 obtain⟨NL,E,P,hP,hR⟩:=h.ex
 refine ake es ps D w ?_ h.ref.dJ.out hok
 rw[hR.eq]
 exact h.ref.dS.out.dS
end Go.Proofs.YtpfifochimkpfaaGreatDoor
namespace Go.WW
open Go.RowKit
section
variable {w w':World} (h:∀k,k<w.heap.size→w'.heap[k]?=w.heap[k]?)
include h
theorem bH.same{k:Nat}{a:Option Addr}{n:Nat}{R R':Nat→Array Value→Prop}(hR:∀i cs,R i cs→R' i cs)(x:bH w k a n R):bH w' k a n R':=by
 refine⟨x.1,fun i hi=>?_⟩
 obtain⟨b,o,cs,ha,hr,hR1⟩:=x.2 i hi
 exact⟨b,o,cs,ha,by rw[fG (h b (fA hr))];exact hr,hR i cs hR1⟩
theorem dO.same{a:Option Addr}{n:Nat}{R R':Nat→Value→Prop}(hR:∀i cs,R i cs→R' i cs)(x:dO w a n R):dO w' a n R':=by
 refine⟨x.1,fun i hi=>?_⟩
 obtain⟨b,o,cs,ha,hr,hR1⟩:=x.2 i hi
 exact⟨b,o,cs,ha,(World.cell?_of_block (a:=⟨b,o+i,Option.none⟩) (h b (World.block_lt_of_cell? w _ hr))).trans hr,hR i cs hR1⟩
theorem jH.same{a:Option Addr}{l:List ByteArray}(x:jH w a l):jH w' a l:=dO.same h (fun _ _ y=>y) x
theorem BytesAt.same{a:Option Addr}{l:List UInt8}(x:BytesAt w a l):BytesAt w' a l:=dO.same h (fun _ _ y=>y) x
theorem bK.same{s:Sl}{p:aH}(x:bK w s p):bK w' s p:=⟨x.1.same h,x.2⟩
theorem fQ.same{a:Option Addr}{l:List aH}(x:fQ w a l):fQ w' a l:=bH.same h (fun _ _ ⟨p,s,y1,y2,y3⟩=>⟨p,s,y1,y2,y3.same h⟩) x
theorem mg.same{s:Sl}{k:Key}(x:mg w s k):mg w' s k:=BytesAt.same h x
theorem kF.same{a:Option Addr}{l:List Key}(x:kF w a l):kF w' a l:=bH.same h (fun _ _ ⟨p,s,y1,y2,y3⟩=>⟨p,s,y1,y2,y3.same h⟩) x
theorem kG.same{s:Sl}{k:bP}(x:kG w s k):kG w' s k:=⟨x.1.same h,x.2⟩
theorem lL.same{a:Option Addr}{l:List bP}(x:lL w a l):lL w' a l:=bH.same h (fun _ _ ⟨p,s,y1,y2,y3⟩=>⟨p,s,y1,y2,y3.same h⟩) x
theorem dY.same{a:Option Addr}{l:List (List UInt8)}(x:dY w a l):dY w' a l:=dO.same h (fun _ _ ⟨p,s,y1,y2,y3⟩=>⟨p,s,y1,y2,y3.same h⟩) x
theorem aS.same{r:aK}{d:Entry}(x:aS w r d):aS w' r d:=
 ⟨x.name.same h,x.aliases.same h,x.keys.same h,x.targets.same h,x.bW.same h,x.history.same h,x.aP,x.attrs⟩
end
theorem aS.dep{w:World}{r:aK}{d:Entry}(x:aS w r d):bu w (fun k=>k<w.heap.size) (fun v=>aS v r d):=fun _ h=>x.same h
end Go.WW
namespace Go.WW
end Go.WW
namespace Go.Proofs.YtpfifochimkpfaaGreatDoor
open Go.RowKit Go.WW
theorem alI(r:aK)(d:Entry)(p:ah)(now:Int)(w:World)(hs:Small d p) :
  Calls Tryz.prog 14 #[.agg (ae r d),.agg (ak p),.bool true,.int .i64 now] w fun e w'=>e=.returned (.agg (ae r (gK d p true now)))∧Below w.heap.size w w':=by
 have hB:Below w.heap.size w (((w.alloc (.cells (ae r d) 44)).alloc (.cells (ak p) 52)).alloc (.cells (ae bg aV) 44)):=(((Below.refl _ _).alloc (Nat.le_refl _) _).alloc (by simp) _).alloc (by simp;omega) _
 have hz:aX (((w.alloc (.cells (ae r d) 44)).alloc (.cells (ak p) 52)).alloc (.cells (ae bg aV) 44)) (w.heap.size+1+1) 0 17=true:=by simp[go_sem]
 have hx0:(((w.alloc (.cells (ae r d) 44)).alloc (.cells (ak p) 52)).alloc (.cells (ae bg aV) 44)).heap[w.heap.size]?=some (.cells (ae r d) 44):=by rw[Below.heap_alloc _ _ _ (by simp;omega)];exact kS w _ _
 obtain⟨hc0,hc1⟩:=FX now hs
 go_enter Tryz.func14,Tryz.ntmps14
 go_wp2_with fail
 rw[←mO]
 refine(JS _ _ _ _ _ hs).mono ?_
 rintro e w2 ⟨rfl,hb2⟩
 have nJ:=aI hb2 hx0
 have hB2:=ag hB hb2
 have hpp:=fD hb2
 have hsz:w.heap.size+1+1<w2.heap.size:=by have:=hb2.size;simp at this;omega
 have hsz0:w.heap.size<w2.heap.size:=by omega
 have o9:w.heap.size+1+1≠w.heap.size:=by omega
 have alJ:ae r (gK d p true now)=ae r (gK d p true now):=rfl
 have hfo:jV d p true now=0:=rfl
 generalize countOf d p now=c at *
 have hy:=(dH (o:=13) (.int .i64 now) (dH (o:=11) (.int .i64 0) nJ))
 have hrow0:row? ((w2.setCell ⟨w.heap.size,11,none⟩ (.int .i64 0)).setCell ⟨w.heap.size,13,none⟩ (.int .i64 now)) w.heap.size 0 17=some (ae r {d with fails:=0,iw:=now}):=(dI hy).trans (by kernel_rfl)
 have hcp:aX ((w2.setCell ⟨w.heap.size,11,none⟩ (.int .i64 0)).setCell ⟨w.heap.size,13,none⟩ (.int .i64 now)) (w.heap.size+1+1) 0 17=true:=by
  rw[jJ o9,jJ o9]
  exact(hpp (w.heap.size+1+1) 0 17 (by simp)).trans hz
 clear hy
 obtain⟨hc,hf,hr,hlt⟩:=ax nJ
 clear hr
 go_wp2_with fail
 have hrow:=gJ (oP r {d with fails:=0,iw:=now}) hcp
 exact bodyPost_ret (xe (by rfl) Tryz.underlying44 rfl (by kernel_rfl) rfl hrow) rfl ⟨by unfold gK;rw[hfo];rfl,Go.WW.Below.putRow ((hB2.setCell (by simp) _).setCell (by simp) _) (by omega)⟩
theorem alK(r:aK)(d:Entry)(p:ah)(now:Int)(w:World)(hs:Small d p) :
  Calls Tryz.prog 14 #[.agg (ae r d),.agg (ak p),.bool false,.int .i64 now] w fun e w'=>e=.returned (.agg (ae r (gK d p false now)))∧Below w.heap.size w w':=by
 have hB:Below w.heap.size w (((w.alloc (.cells (ae r d) 44)).alloc (.cells (ak p) 52)).alloc (.cells (ae bg aV) 44)):=(((Below.refl _ _).alloc (Nat.le_refl _) _).alloc (by simp) _).alloc (by simp;omega) _
 have hz:aX (((w.alloc (.cells (ae r d) 44)).alloc (.cells (ak p) 52)).alloc (.cells (ae bg aV) 44)) (w.heap.size+1+1) 0 17=true:=by simp[go_sem]
 have hx0:(((w.alloc (.cells (ae r d) 44)).alloc (.cells (ak p) 52)).alloc (.cells (ae bg aV) 44)).heap[w.heap.size]?=some (.cells (ae r d) 44):=by rw[Below.heap_alloc _ _ _ (by simp;omega)];exact kS w _ _
 obtain⟨hc0,hc1⟩:=FX now hs
 go_enter Tryz.func14,Tryz.ntmps14
 go_wp2_with fail
 rw[←mO]
 refine(JS _ _ _ _ _ hs).mono ?_
 rintro e w2 ⟨rfl,hb2⟩
 have nJ:=aI hb2 hx0
 have hB2:=ag hB hb2
 have hpp:=fD hb2
 have hsz:w.heap.size+1+1<w2.heap.size:=by have:=hb2.size;simp at this;omega
 have hsz0:w.heap.size<w2.heap.size:=by omega
 have o9:w.heap.size+1+1≠w.heap.size:=by omega
 have alJ:ae r (gK d p false now)=ae r (gK d p false now):=rfl
 have hfo:jV d p false now=min (countOf d p now+1) 65535:=rfl
 generalize countOf d p now=c at *
 have hy:=(dH (o:=12) (.int .i64 now) (dH (o:=11) (.int .i64 (min (c+1) 65535)) nJ))
 have hrow0:row? ((w2.setCell ⟨w.heap.size,11,none⟩ (.int .i64 (min (c+1) 65535))).setCell ⟨w.heap.size,12,none⟩ (.int .i64 now)) w.heap.size 0 17=some (ae r {d with fails:=min (c+1) 65535,dw:=now}):=(dI hy).trans (by kernel_rfl)
 have hcp:aX ((w2.setCell ⟨w.heap.size,11,none⟩ (.int .i64 (min (c+1) 65535))).setCell ⟨w.heap.size,12,none⟩ (.int .i64 now)) (w.heap.size+1+1) 0 17=true:=by
  rw[jJ o9,jJ o9]
  exact(hpp (w.heap.size+1+1) 0 17 (by simp)).trans hz
 clear hy
 obtain⟨hc,hf,hr,hlt⟩:=ax nJ
 clear hr
 go_wp2_with fail
 have hrow:=gJ (oP r {d with fails:=min (c+1) 65535,dw:=now}) hcp
 exact bodyPost_ret (xe (by rfl) Tryz.underlying44 rfl (by kernel_rfl) rfl hrow) rfl ⟨by unfold gK;rw[hfo];rfl,Go.WW.Below.putRow ((hB2.setCell (by simp) _).setCell (by simp) _) (by omega)⟩
theorem O4(r:aK)(d:Entry)(p:ah)(s:Bool)(now:Int)(w:World)(hs:Small d p) :
  Calls Tryz.prog 14 #[.agg (ae r d),.agg (ak p),.bool s,.int .i64 now] w fun e w'=>e=.returned (.agg (ae r (gK d p s now)))∧Below w.heap.size w w':=by
 cases s
 ·exact alK r d p now w hs
 ·exact alI r d p now w hs
section
variable (r:aK) (d:Entry) (p:ah) (now:Int) (w:World) (he:aS w r d) (hs:p.name.size≤lim)
include he hs
end
end Go.Proofs.YtpfifochimkpfaaGreatDoor
namespace Go.Proofs.YtpfifochimkpfaaGreatDoor
open Go.ChangeShapes Go.WideShapes Go.ChangeAt Go.RowKit Go.WW Go.Deep
section
variable {H:Type}
theorem alL(d:DataW H):1≤Rows.uptoBulk d:=by
 cases d with
 |lit l=>cases l<;>simp[Rows.uptoBulk]
 |_=>simp[Rows.uptoBulk]
theorem Yk:∀(l:List (DataW H)),l.length≤Rows.uptoBulkAll l
 | []=>by simp[Rows.uptoBulkAll]
 |d::l=>by have:=alL d;have:=Yk l;simp[Rows.uptoBulkAll];omega
theorem O5{d:DataW H}:∀{l:List (DataW H)},d∈l→Rows.uptoBulk d≤Rows.uptoBulkAll l
 | [],h=>by simp at h
 |e::l,h=>by
  rcases List.mem_cons.1 h with rfl|h
  ·simp[Rows.uptoBulkAll]
  ·have:=O5 h;simp[Rows.uptoBulkAll];omega
end
theorem alM{w:World}{b o n:Nat}{cs:List Value}(hn:cs.length=n)(h0:0<n)(h:∀j,j<n→w.cell? ⟨b,o+j,none⟩=cs[j]?):row? w b o n=some cs.toArray:=by
 have hlast:=h (n-1) (by omega)
 rw[List.getElem?_eq_getElem (by omega)]at hlast
 unfold row?
 cases hb:w.heap[b]? with
 |none=>exfalso;simp[World.cell?,hb]at hlast
 |some ob=>
  cases ob with
  |cells c t f=>
   rw[cell_of_row w b (o+(n-1)) c t f hb]at hlast
   have hl:=(Array.getElem?_eq_some_iff.1 hlast).1
   show(if o+n≤c.size then _ else _)=_
   rw[if_pos (by omega)]
   congr 1
   apply Array.ext_getElem?
   intro j
   rw[Array.getElem?_extract]
   by_cases hj:j<n
   ·rw[if_pos (by omega),←cell_of_row w b (o+j) c t f hb,h j hj];simp
   ·rw[if_neg (by omega)];simp;omega
  |_=>exfalso;simp[World.cell?,hb]at hlast
section
variable {H:Type} {enc:TypeId×Value→H} {P:Program} {w:World} {base:Nat} {spare:Nat→Bool} {held:Bool}
theorem wK{t e:TypeId}{fuel k:Nat}{v:Value}{x:DataW H×List MemPlace}(ht:P.underlying t=some (.slice e))(hC:P.cellsOf e=k)(h0:0<k)(h:DataW.trod enc P w base spare held fuel t [v]=some x)(hb:Rows.uptoBulk x.1≤1048576) :
  ∃(s:Sl) (n:Nat),v=.slice s.a n s.cap∧n≤1048576∧∀i,i<n→∃b o cs fuel' y,s.a=some ⟨b,o,none⟩∧row? w b (o+i*k) k=some cs∧DataW.trod enc P w base spare held fuel' e cs.toList=some y∧Rows.uptoBulk y.1≤1048576:=by
 rcases open_slice ht h with⟨hcs,rfl⟩|⟨a,len,cap,m,n,D,Pl,hcs,hba,hle,hmax,hm,hx,hel⟩
 ·refine⟨⟨none,0⟩,0,by simpa using hcs,by omega,fun i hi=>by omega⟩
 ·rw[hx]at hb
  simp only[Rows.uptoBulk]at hb
  have hlen:=Yk ((List.range len).map D)
  simp only[List.length_map,List.length_range]at hlen
  refine⟨⟨some a,cap⟩,len,by simpa using hcs,by omega,fun i hi=>?_⟩
  have hml:len≤m:=by rw[hm];split<;>omega
  obtain⟨c0,hc0,_⟩:=hel 0 (by omega)
  rw[hC]at hc0
  obtain⟨_,hl0,alN⟩:=World.cells?_some hc0
  have hspot:a.spot=none:=by
   have h1:=alN 0 h0
   rw[List.getElem?_eq_getElem (by omega)]at h1
   simp only[Nat.zero_mul,Addr.add,if_true]at h1
   unfold World.cell? at h1
   split at h1
   ·split at h1
    ·cases h1
    ·rename_i hs;simpa using hs
   ·cases h1
  obtain⟨b,o,sp⟩:=a
  dsimp only at hspot
  subst hspot
  obtain⟨cs',hc',ht'⟩:=hel i (by omega)
  rw[hC]at hc'
  obtain⟨_,hl',hat'⟩:=World.cells?_some hc'
  refine⟨b,o,cs'.toArray,n,(D i,Pl i),rfl,alM hl' h0 (fun j hj=>?_),by simpa using ht',?_⟩
  ·have h1:=hat' j hj
   rw[Addr.add_mid,Addr.add_mid]at h1
   exact h1
  ·have:=O5 (d:=D i) (l:=(List.range len).map D) (List.mem_map.2 ⟨i,by simpa using hi,rfl⟩)
   show Rows.uptoBulk (D i)≤_
   omega
end
end Go.Proofs.YtpfifochimkpfaaGreatDoor
namespace Go.Proofs.YtpfifochimkpfaaGreatDoor
open Go.ChangeShapes Go.WideShapes Go.ChangeAt Go.RowKit Go.WW Go.Deep
theorem uO{α:Type}{R:Nat→α→Prop}:∀{n:Nat},(∀i,i<n→∃a,R i a)→∃l:List α,l.length=n∧∀i a,l[i]?=some a→R i a
 |0,_=>⟨[],rfl,fun i a h=>by simp at h⟩
 |n+1,h=>by
  obtain⟨l,hl,hr⟩:=uO (n:=n) (fun i hi=>h i (by omega))
  obtain⟨a,ha⟩:=h n (by omega)
  refine⟨l++[a],by simp[hl],fun i b hb=>?_⟩
  by_cases hi:i<n
  ·rw[List.getElem?_append_left (by omega)]at hb;exact hr i b hb
  ·have hil:=(List.getElem?_eq_some_iff.1 hb).1
   simp[hl]at hil
   obtain rfl:i=n:=by omega
   rw[List.getElem?_append_right (by omega)]at hb
   simp[hl]at hb
   subst hb;exact ha
theorem Yl:∀{cs:List Value},cs.length=1→∃c0,cs=[c0]
 | [c0],_=>⟨c0,rfl⟩
theorem alO:∀{cs:List Value},cs.length=2→∃c0 c1,cs=[c0,c1]
 | [c0,c1],_=>⟨c0,c1,rfl⟩
theorem Ym:∀{cs:List Value},cs.length=3→∃c0 c1 c2,cs=[c0,c1,c2]
 | [c0,c1,c2],_=>⟨c0,c1,c2,rfl⟩
theorem alP:∀{cs:List Value},cs.length=5→∃c0 c1 c2 c3 c4,cs=[c0,c1,c2,c3,c4]
 | [c0,c1,c2,c3,c4],_=>⟨c0,c1,c2,c3,c4,rfl⟩
theorem alQ:∀{cs:List Value},cs.length=10→∃c0 c1 c2 c3 c4 c5 c6 c7 c8 c9,cs=[c0,c1,c2,c3,c4,c5,c6,c7,c8,c9]
 | [c0,c1,c2,c3,c4,c5,c6,c7,c8,c9],_=>⟨c0,c1,c2,c3,c4,c5,c6,c7,c8,c9,rfl⟩
theorem alR:∀{cs:List Value},cs.length=17→∃c0 c1 c2 c3 c4 c5 c6 c7 c8 c9 c10 c11 c12 c13 c14 c15 c16,cs=[c0,c1,c2,c3,c4,c5,c6,c7,c8,c9,c10,c11,c12,c13,c14,c15,c16]
 | [c0,c1,c2,c3,c4,c5,c6,c7,c8,c9,c10,c11,c12,c13,c14,c15,c16],_=>⟨c0,c1,c2,c3,c4,c5,c6,c7,c8,c9,c10,c11,c12,c13,c14,c15,c16,rfl⟩
theorem uP{n:Nat}(h:n≤1048576):n≤lim:=by unfold lim;omega
section
variable {H:Type} {enc:TypeId×Value→H} {w:World} {base:Nat} {spare:Nat→Bool} {held:Bool} {fuel:Nat} {x:DataW H×List MemPlace}
theorem BM{P:Program}{T:TypeId}{fs:Array Field}{cs:List Value}(ht:P.underlying T=some (.struct fs))(h:DataW.trod enc P w base spare held fuel T cs=some x)(hb:Rows.uptoBulk x.1≤1048576) :
  cs.length=P.cellsOf T∧∃n,∀(i:Nat) (f:Field),fs[i]?=some f→∃y,DataW.trod enc P w base spare held n f.type ((cs.drop f.offset).take (P.cellsOf f.type))=some y∧Rows.uptoBulk y.1≤1048576:=by
 obtain⟨xs,n,_,hx,hlen,hxl,hf⟩:=DataW.trod_struct ht h
 refine⟨hlen,n,fun i f hi=>?_⟩
 have hil:i<xs.length:=by rw[hxl];exact(Array.getElem?_eq_some_iff.1 hi).1
 refine⟨xs[i],by rw[hf i f hi,List.getElem?_eq_getElem hil],?_⟩
 rw[hx]at hb
 simp only[Rows.uptoBulk]at hb
 have:=O5 (d:=xs[i].1) (l:=xs.map (·.1)) (List.mem_map.2 ⟨xs[i],List.getElem_mem hil,rfl⟩)
 omega
theorem take_one{cs:List Value}{o:Nat}{c:Value}(h:cs[o]?=some c):(cs.drop o).take 1=[c]:=by
 obtain⟨ho,rfl⟩:=List.getElem?_eq_some_iff.1 h
 rw[List.drop_eq_getElem_cons ho];rfl
theorem EC:Tryz.prog.cellsOf 9=1:=by kernel_rfl
theorem alS:Tryz.prog.cellsOf 5=1:=by kernel_rfl
theorem jQ:Tryz.prog.cellsOf 3=1:=by kernel_rfl
theorem alT:Tryz.prog.cellsOf 40=1:=by kernel_rfl
theorem O6:Tryz.prog.cellsOf 35=2:=by kernel_rfl
theorem Yn:Tryz.prog.cellsOf 176=3:=by kernel_rfl
theorem Yo:Tryz.prog.cellsOf 80=5:=by kernel_rfl
theorem Yp:Tryz.prog.cellsOf 44=17:=by kernel_rfl
theorem Yq:Tryz.prog.cellsOf 52=10:=by kernel_rfl
theorem alU:Tryz.prog.cellsOf 33=1:=by kernel_rfl
theorem Yr:Tryz.prog.cellsOf 58=1:=by kernel_rfl
theorem O7:Tryz.prog.cellsOf 24=1:=by kernel_rfl
theorem alV:Tryz.prog.cellsOf 41=1:=by kernel_rfl
theorem alW:Tryz.prog.cellsOf 78=1:=by kernel_rfl
theorem alX:Tryz.prog.cellsOf 42=1:=by kernel_rfl
theorem ED{v:Value}(h:DataW.trod enc Tryz.prog w base spare held fuel 9 [v]=some x)(hb:Rows.uptoBulk x.1≤1048576):∃s:ByteArray,v=.string s∧s.size≤lim:=by
 obtain⟨s,hs,hx,_⟩:=DataW.trod_string Tryz.underlying9 h
 refine⟨s,by simpa using hs,?_⟩
 rw[hx]at hb
 simp[Rows.uptoBulk]at hb
 exact uP (by omega)
theorem jR{v:Value}(h:DataW.trod enc Tryz.prog w base spare held fuel 3 [v]=some x):∃n:Int,v=.int .i64 n:=by
 obtain⟨n,hs,_,_⟩:=DataW.trod_int Tryz.underlying3 h
 exact⟨n,by simpa using hs⟩
theorem alY{v:Value}(h:DataW.trod enc Tryz.prog w base spare held fuel 33 [v]=some x)(hb:Rows.uptoBulk x.1≤1048576):∃(s:Sl) (l:List ByteArray),v=.slice s.a l.length s.cap∧jH w s.a l:=by
 obtain⟨s,n,hv,hn,hel⟩:=wK Tryz.underlying33 EC (by omega) h hb
 obtain⟨l,hl,hr⟩:=uO (R:=fun i (a:ByteArray)=>∃b o,s.a=some ⟨b,o,none⟩∧w.cell? ⟨b,o+i,none⟩=some (.string a)∧a.size≤lim) (n:=n) (fun i hi=>by
  obtain⟨b,o,cs,f',y,ha,hrow,ht,hby⟩:=hel i hi
  have hc:=ji hrow 0 (by omega)
  have hsz:=x8 hrow
  obtain⟨c,hcs⟩:∃c,cs.toList=[c]:=by
   obtain⟨l⟩:=cs
   match l,hsz with
   | [c],_=>exact⟨c,rfl⟩
  rw[hcs]at ht
  obtain⟨a,rfl,hs⟩:=ED ht hby
  refine⟨a,b,o,ha,?_,hs⟩
  have e:cs[0]?=some (.string a):=by rw[←Array.getElem?_toList,hcs];rfl
  rw[e]at hc
  simpa using hc)
 refine⟨s,l,by rw[hl];exact hv,by rw[hl];exact uP hn,fun i hi=>?_⟩
 obtain⟨b,o,h1,h2,h3⟩:=hr i l[i] (List.getElem?_eq_getElem hi)
 exact⟨b,o,_,h1,h2,l[i],List.getElem?_eq_getElem hi,rfl,h3⟩
theorem Yt{cs:List Value}(h:DataW.trod enc Tryz.prog w base spare held fuel 35 cs=some x)(hb:Rows.uptoBulk x.1≤1048576):∃(s:Sl) (p:aH),cs=(az s p).toList∧bK w s p:=by
 obtain⟨hl,n,hf⟩:=BM Tryz.underlying35 h hb
 rw[O6]at hl
 obtain⟨c0,c1,rfl⟩:=alO hl
 obtain⟨y0,t0,b0⟩:=hf 0 _ rfl
 replace t0:DataW.trod enc Tryz.prog w base spare held n 33 (([c0,c1].drop 0).take (Tryz.prog.cellsOf 33))=some y0:=t0
 rw[alU,take_one (c:=c0) rfl]at t0
 obtain⟨y1,t1,b1⟩:=hf 1 _ rfl
 replace t1:DataW.trod enc Tryz.prog w base spare held n 9 (([c0,c1].drop 1).take (Tryz.prog.cellsOf 9))=some y1:=t1
 rw[EC,take_one (c:=c1) rfl]at t1
 obtain⟨s0,n0,rfl,hs0⟩:=alY t0 b0
 obtain⟨n1,rfl,hs1⟩:=ED t1 b1
 exact⟨s0,⟨n0,n1⟩,rfl,hs0,hs1⟩
theorem Jf{v:Value}(h:DataW.trod enc Tryz.prog w base spare held fuel 24 [v]=some x)(hb:Rows.uptoBulk x.1≤1048576):∃(s:Sl) (l:List aH),v=.slice s.a l.length s.cap∧fQ w s.a l:=by
 obtain⟨s,n,hv,hn,hel⟩:=wK Tryz.underlying24 O6 (by omega) h hb
 obtain⟨l,hl,hr⟩:=uO (R:=fun i (a:aH)=>∃b o t,s.a=some ⟨b,o,none⟩∧row? w b (o+i*2) 2=some (az t a)∧bK w t a) (n:=n) (fun i hi=>by
  obtain⟨b,o,cs,f',y,ha,hrow,ht,hby⟩:=hel i hi
  obtain⟨t,p,hcs,hp⟩:=Yt ht hby
  exact⟨p,b,o,t,ha,by rw[hrow,←Array.toList_inj.1 hcs],hp⟩)
 refine⟨s,l,by rw[hl];exact hv,by rw[hl];exact uP hn,fun i hi=>?_⟩
 obtain⟨b,o,t,h1,h2,h3⟩:=hr i l[i] (List.getElem?_eq_getElem hi)
 exact⟨b,o,_,h1,h2,l[i],t,List.getElem?_eq_getElem hi,rfl,h3⟩
theorem alZ{v:Value}(h:DataW.trod enc Tryz.prog w base spare held fuel 5 [v]=some x):∃c:UInt8,v=.int .u8 c.toNat:=by
 obtain⟨n,hs,_,hw⟩:=DataW.trod_int Tryz.underlying5 h
 have hw':0≤n∧n≤255:=by
  simp only[Lit.wf,Bool.and_eq_true,decide_eq_true_eq]at hw
  exact⟨hw.1,hw.2⟩
 refine⟨UInt8.ofNat n.toNat,?_⟩
 have e:((UInt8.ofNat n.toNat).toNat:Int)=n:=by
  have:n.toNat<256:=by omega
  rw[UInt8.toNat_ofNat_of_lt' (by simpa using this)];omega
 rw[e];simpa using hs
theorem Yu{v:Value}(h:DataW.trod enc Tryz.prog w base spare held fuel 58 [v]=some x)(hb:Rows.uptoBulk x.1≤1048576):∃(s:Sl) (l:List UInt8),v=.slice s.a l.length s.cap∧BytesAt w s.a l:=by
 obtain⟨s,n,hv,hn,hel⟩:=wK Tryz.underlying58 alS (by omega) h hb
 obtain⟨l,hl,hr⟩:=uO (R:=fun i (a:UInt8)=>∃b o v,s.a=some ⟨b,o,none⟩∧w.cell? ⟨b,o+i,none⟩=some v∧v=.int .u8 a.toNat) (n:=n) (fun i hi=>by
  obtain⟨b,o,cs,f',y,ha,hrow,ht,hby⟩:=hel i hi
  have hc:=ji hrow 0 (by omega)
  obtain⟨c,hcs⟩:=Yl (cs:=cs.toList) (by simpa using x8 hrow)
  have e:cs[0]?=some c:=by rw[←Array.getElem?_toList,hcs];rfl
  rw[hcs]at ht
  rw[e]at hc
  obtain⟨a,rfl⟩:=alZ ht
  exact⟨a,b,o,_,ha,by simpa using hc,rfl⟩)
 refine⟨s,l,by rw[hl];exact hv,by rw[hl];exact uP hn,fun i hi=>?_⟩
 obtain⟨b,o,v,h1,h2,h3⟩:=hr i l[i] (List.getElem?_eq_getElem hi)
 exact⟨b,o,v,h1,h2,l[i],List.getElem?_eq_getElem hi,h3⟩
theorem al0{cs:List Value}(h:DataW.trod enc Tryz.prog w base spare held fuel 176 cs=some x)(hb:Rows.uptoBulk x.1≤1048576):∃(s:Sl) (p:Key),cs=(dD s p).toList∧mg w s p:=by
 obtain⟨hl,n,hf⟩:=BM Tryz.underlying176 h hb
 rw[Yn]at hl
 obtain⟨c0,c1,c2,rfl⟩:=Ym hl
 obtain⟨y0,t0,b0⟩:=hf 0 _ rfl
 replace t0:DataW.trod enc Tryz.prog w base spare held n 3 (([c0,c1,c2].drop 0).take (Tryz.prog.cellsOf 3))=some y0:=t0
 rw[jQ,take_one (c:=c0) rfl]at t0
 obtain⟨y1,t1,b1⟩:=hf 1 _ rfl
 replace t1:DataW.trod enc Tryz.prog w base spare held n 3 (([c0,c1,c2].drop 1).take (Tryz.prog.cellsOf 3))=some y1:=t1
 rw[jQ,take_one (c:=c1) rfl]at t1
 obtain⟨y2,t2,b2⟩:=hf 2 _ rfl
 replace t2:DataW.trod enc Tryz.prog w base spare held n 58 (([c0,c1,c2].drop 2).take (Tryz.prog.cellsOf 58))=some y2:=t2
 rw[Yr,take_one (c:=c2) rfl]at t2
 obtain⟨n0,rfl⟩:=jR t0
 clear b0
 obtain⟨n1,rfl⟩:=jR t1
 clear b1
 obtain⟨s2,n2,rfl,hs2⟩:=Yu t2 b2
 exact⟨s2,⟨n0,n1,n2⟩,rfl,hs2⟩
theorem al1{v:Value}(h:DataW.trod enc Tryz.prog w base spare held fuel 78 [v]=some x)(hb:Rows.uptoBulk x.1≤1048576):∃(s:Sl) (l:List Key),v=.slice s.a l.length s.cap∧kF w s.a l:=by
 obtain⟨s,n,hv,hn,hel⟩:=wK Tryz.underlying78 Yn (by omega) h hb
 obtain⟨l,hl,hr⟩:=uO (R:=fun i (a:Key)=>∃b o t,s.a=some ⟨b,o,none⟩∧row? w b (o+i*3) 3=some (dD t a)∧mg w t a) (n:=n) (fun i hi=>by
  obtain⟨b,o,cs,f',y,ha,hrow,ht,hby⟩:=hel i hi
  obtain⟨t,p,hcs,hp⟩:=al0 ht hby
  exact⟨p,b,o,t,ha,by rw[hrow,←Array.toList_inj.1 hcs],hp⟩)
 refine⟨s,l,by rw[hl];exact hv,by rw[hl];exact uP hn,fun i hi=>?_⟩
 obtain⟨b,o,t,h1,h2,h3⟩:=hr i l[i] (List.getElem?_eq_getElem hi)
 exact⟨b,o,_,h1,h2,l[i],t,List.getElem?_eq_getElem hi,rfl,h3⟩
theorem al2{cs:List Value}(h:DataW.trod enc Tryz.prog w base spare held fuel 80 cs=some x)(hb:Rows.uptoBulk x.1≤1048576):∃(s:Sl) (p:bP),cs=(bY s p).toList∧kG w s p:=by
 obtain⟨hl,n,hf⟩:=BM Tryz.underlying80 h hb
 rw[Yo]at hl
 obtain⟨c0,c1,c2,c3,c4,rfl⟩:=alP hl
 obtain⟨y0,t0,b0⟩:=hf 0 _ rfl
 replace t0:DataW.trod enc Tryz.prog w base spare held n 3 (([c0,c1,c2,c3,c4].drop 0).take (Tryz.prog.cellsOf 3))=some y0:=t0
 rw[jQ,take_one (c:=c0) rfl]at t0
 obtain⟨y1,t1,b1⟩:=hf 1 _ rfl
 replace t1:DataW.trod enc Tryz.prog w base spare held n 78 (([c0,c1,c2,c3,c4].drop 1).take (Tryz.prog.cellsOf 78))=some y1:=t1
 rw[alW,take_one (c:=c1) rfl]at t1
 obtain⟨y2,t2,b2⟩:=hf 2 _ rfl
 replace t2:DataW.trod enc Tryz.prog w base spare held n 9 (([c0,c1,c2,c3,c4].drop 2).take (Tryz.prog.cellsOf 9))=some y2:=t2
 rw[EC,take_one (c:=c2) rfl]at t2
 obtain⟨y3,t3,b3⟩:=hf 3 _ rfl
 replace t3:DataW.trod enc Tryz.prog w base spare held n 3 (([c0,c1,c2,c3,c4].drop 3).take (Tryz.prog.cellsOf 3))=some y3:=t3
 rw[jQ,take_one (c:=c3) rfl]at t3
 obtain⟨y4,t4,b4⟩:=hf 4 _ rfl
 replace t4:DataW.trod enc Tryz.prog w base spare held n 3 (([c0,c1,c2,c3,c4].drop 4).take (Tryz.prog.cellsOf 3))=some y4:=t4
 rw[jQ,take_one (c:=c4) rfl]at t4
 obtain⟨n0,rfl⟩:=jR t0
 clear b0
 obtain⟨s1,n1,rfl,hs1⟩:=al1 t1 b1
 obtain⟨n2,rfl,hs2⟩:=ED t2 b2
 obtain⟨n3,rfl⟩:=jR t3
 clear b3
 obtain⟨n4,rfl⟩:=jR t4
 clear b4
 exact⟨s1,⟨n0,n1,n2,n3,n4⟩,rfl,hs1,hs2⟩
theorem al3{v:Value}(h:DataW.trod enc Tryz.prog w base spare held fuel 41 [v]=some x)(hb:Rows.uptoBulk x.1≤1048576):∃(s:Sl) (l:List bP),v=.slice s.a l.length s.cap∧lL w s.a l:=by
 obtain⟨s,n,hv,hn,hel⟩:=wK Tryz.underlying41 Yo (by omega) h hb
 obtain⟨l,hl,hr⟩:=uO (R:=fun i (a:bP)=>∃b o t,s.a=some ⟨b,o,none⟩∧row? w b (o+i*5) 5=some (bY t a)∧kG w t a) (n:=n) (fun i hi=>by
  obtain⟨b,o,cs,f',y,ha,hrow,ht,hby⟩:=hel i hi
  obtain⟨t,p,hcs,hp⟩:=al2 ht hby
  exact⟨p,b,o,t,ha,by rw[hrow,←Array.toList_inj.1 hcs],hp⟩)
 refine⟨s,l,by rw[hl];exact hv,by rw[hl];exact uP hn,fun i hi=>?_⟩
 obtain⟨b,o,t,h1,h2,h3⟩:=hr i l[i] (List.getElem?_eq_getElem hi)
 exact⟨b,o,_,h1,h2,l[i],t,List.getElem?_eq_getElem hi,rfl,h3⟩
theorem al4{v:Value}(h:DataW.trod enc Tryz.prog w base spare held fuel 42 [v]=some x)(hb:Rows.uptoBulk x.1≤1048576):∃(s:Sl) (l:List (List UInt8)),v=.slice s.a l.length s.cap∧dY w s.a l:=by
 obtain⟨s,n,hv,hn,hel⟩:=wK Tryz.underlying42 Yr (by omega) h hb
 obtain⟨l,hl,hr⟩:=uO (R:=fun i (a:(List UInt8))=>∃b o v,s.a=some ⟨b,o,none⟩∧w.cell? ⟨b,o+i,none⟩=some v∧∃s':Sl,v=.slice s'.a a.length s'.cap∧BytesAt w s'.a a) (n:=n) (fun i hi=>by
  obtain⟨b,o,cs,f',y,ha,hrow,ht,hby⟩:=hel i hi
  have hc:=ji hrow 0 (by omega)
  obtain⟨c,hcs⟩:=Yl (cs:=cs.toList) (by simpa using x8 hrow)
  have e:cs[0]?=some c:=by rw[←Array.getElem?_toList,hcs];rfl
  rw[hcs]at ht
  rw[e]at hc
  obtain⟨s',a,rfl,hs'⟩:=Yu ht hby
  exact⟨a,b,o,_,ha,by simpa using hc,s',rfl,hs'⟩)
 refine⟨s,l,by rw[hl];exact hv,by rw[hl];exact uP hn,fun i hi=>?_⟩
 obtain⟨b,o,v,h1,h2,h3⟩:=hr i l[i] (List.getElem?_eq_getElem hi)
 obtain⟨s',h4,h5⟩:=h3
 exact⟨b,o,v,h1,h2,l[i],s',List.getElem?_eq_getElem hi,h4,h5⟩
end
end Go.Proofs.YtpfifochimkpfaaGreatDoor
namespace Go.Proofs.YtpfifochimkpfaaGreatDoor
open Go.ChangeShapes Go.WideShapes Go.ChangeAt Go.RowKit Go.WW Go.Deep
section
variable {H:Type} {enc:TypeId×Value→H} {w:World} {base:Nat} {spare:Nat→Bool} {held:Bool} {fuel:Nat} {x:DataW H×List MemPlace}
theorem al5{v:Value}(h:DataW.trod enc Tryz.prog w base spare held fuel 40 [v]=some x):∃n:Int,v=.int .u32 n∧0≤n∧n≤4294967295:=by
 obtain⟨n,hs,_,hw⟩:=DataW.trod_int Tryz.underlying40 h
 simp only[Lit.wf,Bool.and_eq_true,decide_eq_true_eq]at hw
 exact⟨n,by simpa using hs,hw.1,hw.2⟩
theorem al6{cs:List Value}(h:DataW.trod enc Tryz.prog w base spare held fuel 44 cs=some x)(hb:Rows.uptoBulk x.1≤1048576):∃(r:aK) (d:Entry),cs=(ae r d).toList∧aS w r d:=by
 obtain⟨hl,n,hf⟩:=BM Tryz.underlying44 h hb
 rw[Yp]at hl
 obtain⟨c0,c1,c2,c3,c4,c5,c6,c7,c8,c9,c10,c11,c12,c13,c14,c15,c16,rfl⟩:=alR hl
 obtain⟨y0,t0,b0⟩:=hf 0 _ rfl
 replace t0:DataW.trod enc Tryz.prog w base spare held n 35 (([c0,c1,c2,c3,c4,c5,c6,c7,c8,c9,c10,c11,c12,c13,c14,c15,c16].drop 0).take (Tryz.prog.cellsOf 35))=some y0:=t0
 rw[O6]at t0
 replace t0:DataW.trod enc Tryz.prog w base spare held n 35 [c0,c1]=some y0:=t0
 obtain⟨y1,t1,b1⟩:=hf 1 _ rfl
 replace t1:DataW.trod enc Tryz.prog w base spare held n 24 (([c0,c1,c2,c3,c4,c5,c6,c7,c8,c9,c10,c11,c12,c13,c14,c15,c16].drop 2).take (Tryz.prog.cellsOf 24))=some y1:=t1
 rw[O7,take_one (c:=c2) rfl]at t1
 obtain⟨y2,t2,b2⟩:=hf 2 _ rfl
 replace t2:DataW.trod enc Tryz.prog w base spare held n 40 (([c0,c1,c2,c3,c4,c5,c6,c7,c8,c9,c10,c11,c12,c13,c14,c15,c16].drop 3).take (Tryz.prog.cellsOf 40))=some y2:=t2
 rw[alT,take_one (c:=c3) rfl]at t2
 obtain⟨y3,t3,b3⟩:=hf 3 _ rfl
 replace t3:DataW.trod enc Tryz.prog w base spare held n 3 (([c0,c1,c2,c3,c4,c5,c6,c7,c8,c9,c10,c11,c12,c13,c14,c15,c16].drop 4).take (Tryz.prog.cellsOf 3))=some y3:=t3
 rw[jQ,take_one (c:=c4) rfl]at t3
 obtain⟨y4,t4,b4⟩:=hf 4 _ rfl
 replace t4:DataW.trod enc Tryz.prog w base spare held n 41 (([c0,c1,c2,c3,c4,c5,c6,c7,c8,c9,c10,c11,c12,c13,c14,c15,c16].drop 5).take (Tryz.prog.cellsOf 41))=some y4:=t4
 rw[alV,take_one (c:=c5) rfl]at t4
 obtain⟨y5,t5,b5⟩:=hf 5 _ rfl
 replace t5:DataW.trod enc Tryz.prog w base spare held n 9 (([c0,c1,c2,c3,c4,c5,c6,c7,c8,c9,c10,c11,c12,c13,c14,c15,c16].drop 6).take (Tryz.prog.cellsOf 9))=some y5:=t5
 rw[EC,take_one (c:=c6) rfl]at t5
 obtain⟨y6,t6,b6⟩:=hf 6 _ rfl
 replace t6:DataW.trod enc Tryz.prog w base spare held n 3 (([c0,c1,c2,c3,c4,c5,c6,c7,c8,c9,c10,c11,c12,c13,c14,c15,c16].drop 7).take (Tryz.prog.cellsOf 3))=some y6:=t6
 rw[jQ,take_one (c:=c7) rfl]at t6
 obtain⟨y7,t7,b7⟩:=hf 7 _ rfl
 replace t7:DataW.trod enc Tryz.prog w base spare held n 3 (([c0,c1,c2,c3,c4,c5,c6,c7,c8,c9,c10,c11,c12,c13,c14,c15,c16].drop 8).take (Tryz.prog.cellsOf 3))=some y7:=t7
 rw[jQ,take_one (c:=c8) rfl]at t7
 obtain⟨y8,t8,b8⟩:=hf 8 _ rfl
 replace t8:DataW.trod enc Tryz.prog w base spare held n 3 (([c0,c1,c2,c3,c4,c5,c6,c7,c8,c9,c10,c11,c12,c13,c14,c15,c16].drop 9).take (Tryz.prog.cellsOf 3))=some y8:=t8
 rw[jQ,take_one (c:=c9) rfl]at t8
 obtain⟨y9,t9,b9⟩:=hf 9 _ rfl
 replace t9:DataW.trod enc Tryz.prog w base spare held n 3 (([c0,c1,c2,c3,c4,c5,c6,c7,c8,c9,c10,c11,c12,c13,c14,c15,c16].drop 10).take (Tryz.prog.cellsOf 3))=some y9:=t9
 rw[jQ,take_one (c:=c10) rfl]at t9
 obtain⟨y10,t10,b10⟩:=hf 10 _ rfl
 replace t10:DataW.trod enc Tryz.prog w base spare held n 3 (([c0,c1,c2,c3,c4,c5,c6,c7,c8,c9,c10,c11,c12,c13,c14,c15,c16].drop 11).take (Tryz.prog.cellsOf 3))=some y10:=t10
 rw[jQ,take_one (c:=c11) rfl]at t10
 obtain⟨y11,t11,b11⟩:=hf 11 _ rfl
 replace t11:DataW.trod enc Tryz.prog w base spare held n 3 (([c0,c1,c2,c3,c4,c5,c6,c7,c8,c9,c10,c11,c12,c13,c14,c15,c16].drop 12).take (Tryz.prog.cellsOf 3))=some y11:=t11
 rw[jQ,take_one (c:=c12) rfl]at t11
 obtain⟨y12,t12,b12⟩:=hf 12 _ rfl
 replace t12:DataW.trod enc Tryz.prog w base spare held n 3 (([c0,c1,c2,c3,c4,c5,c6,c7,c8,c9,c10,c11,c12,c13,c14,c15,c16].drop 13).take (Tryz.prog.cellsOf 3))=some y12:=t12
 rw[jQ,take_one (c:=c13) rfl]at t12
 obtain⟨y13,t13,b13⟩:=hf 13 _ rfl
 replace t13:DataW.trod enc Tryz.prog w base spare held n 24 (([c0,c1,c2,c3,c4,c5,c6,c7,c8,c9,c10,c11,c12,c13,c14,c15,c16].drop 14).take (Tryz.prog.cellsOf 24))=some y13:=t13
 rw[O7,take_one (c:=c14) rfl]at t13
 obtain⟨y14,t14,b14⟩:=hf 14 _ rfl
 replace t14:DataW.trod enc Tryz.prog w base spare held n 24 (([c0,c1,c2,c3,c4,c5,c6,c7,c8,c9,c10,c11,c12,c13,c14,c15,c16].drop 15).take (Tryz.prog.cellsOf 24))=some y14:=t14
 rw[O7,take_one (c:=c15) rfl]at t14
 obtain⟨y15,t15,b15⟩:=hf 15 _ rfl
 replace t15:DataW.trod enc Tryz.prog w base spare held n 42 (([c0,c1,c2,c3,c4,c5,c6,c7,c8,c9,c10,c11,c12,c13,c14,c15,c16].drop 16).take (Tryz.prog.cellsOf 42))=some y15:=t15
 rw[alX,take_one (c:=c16) rfl]at t15
 obtain⟨s0,n0,e0,hs0⟩:=Yt t0 b0
 obtain⟨rfl,rfl⟩:c0=.slice s0.a n0.parts.length s0.cap∧c1=.string n0.aJ:=by simpa[az]using e0
 obtain⟨s1,n1,rfl,hs1⟩:=Jf t1 b1
 obtain⟨n2,rfl,hs2⟩:=al5 t2
 clear b2
 obtain⟨n3,rfl⟩:=jR t3
 clear b3
 obtain⟨s4,n4,rfl,hs4⟩:=al3 t4 b4
 obtain⟨n5,rfl,hs5⟩:=ED t5 b5
 obtain⟨n6,rfl⟩:=jR t6
 clear b6
 obtain⟨n7,rfl⟩:=jR t7
 clear b7
 obtain⟨n8,rfl⟩:=jR t8
 clear b8
 obtain⟨n9,rfl⟩:=jR t9
 clear b9
 obtain⟨n10,rfl⟩:=jR t10
 clear b10
 obtain⟨n11,rfl⟩:=jR t11
 clear b11
 obtain⟨n12,rfl⟩:=jR t12
 clear b12
 obtain⟨s13,n13,rfl,amc⟩:=Jf t13 b13
 obtain⟨s14,n14,rfl,amd⟩:=Jf t14 b14
 obtain⟨s15,n15,rfl,ame⟩:=al4 t15 b15
 exact⟨⟨s0,s1,s4,s13,s14,s15⟩,⟨n0,n1,n2,n3,n4,n5,n6,n7,n8,n9,n10,n11,n12,n13,n14,n15⟩,rfl,⟨hs0,hs1,hs4,amc,amd,ame,hs5,hs2⟩⟩
theorem amf{cs:List Value}(h:DataW.trod enc Tryz.prog w base spare held fuel 52 cs=some x)(hb:Rows.uptoBulk x.1≤1048576):∃p:ah,cs=(ak p).toList∧p.name.size≤lim:=by
 obtain⟨hl,n,hf⟩:=BM Tryz.underlying52 h hb
 rw[Yq]at hl
 obtain⟨c0,c1,c2,c3,c4,c5,c6,c7,c8,c9,rfl⟩:=alQ hl
 obtain⟨y0,t0,b0⟩:=hf 0 _ rfl
 replace t0:DataW.trod enc Tryz.prog w base spare held n 9 (([c0,c1,c2,c3,c4,c5,c6,c7,c8,c9].drop 0).take (Tryz.prog.cellsOf 9))=some y0:=t0
 rw[EC,take_one (c:=c0) rfl]at t0
 obtain⟨y1,t1,b1⟩:=hf 1 _ rfl
 replace t1:DataW.trod enc Tryz.prog w base spare held n 3 (([c0,c1,c2,c3,c4,c5,c6,c7,c8,c9].drop 1).take (Tryz.prog.cellsOf 3))=some y1:=t1
 rw[jQ,take_one (c:=c1) rfl]at t1
 obtain⟨y2,t2,b2⟩:=hf 2 _ rfl
 replace t2:DataW.trod enc Tryz.prog w base spare held n 3 (([c0,c1,c2,c3,c4,c5,c6,c7,c8,c9].drop 2).take (Tryz.prog.cellsOf 3))=some y2:=t2
 rw[jQ,take_one (c:=c2) rfl]at t2
 obtain⟨y3,t3,b3⟩:=hf 3 _ rfl
 replace t3:DataW.trod enc Tryz.prog w base spare held n 3 (([c0,c1,c2,c3,c4,c5,c6,c7,c8,c9].drop 3).take (Tryz.prog.cellsOf 3))=some y3:=t3
 rw[jQ,take_one (c:=c3) rfl]at t3
 obtain⟨y4,t4,b4⟩:=hf 4 _ rfl
 replace t4:DataW.trod enc Tryz.prog w base spare held n 3 (([c0,c1,c2,c3,c4,c5,c6,c7,c8,c9].drop 4).take (Tryz.prog.cellsOf 3))=some y4:=t4
 rw[jQ,take_one (c:=c4) rfl]at t4
 obtain⟨y5,t5,b5⟩:=hf 5 _ rfl
 replace t5:DataW.trod enc Tryz.prog w base spare held n 3 (([c0,c1,c2,c3,c4,c5,c6,c7,c8,c9].drop 5).take (Tryz.prog.cellsOf 3))=some y5:=t5
 rw[jQ,take_one (c:=c5) rfl]at t5
 obtain⟨y6,t6,b6⟩:=hf 6 _ rfl
 replace t6:DataW.trod enc Tryz.prog w base spare held n 3 (([c0,c1,c2,c3,c4,c5,c6,c7,c8,c9].drop 6).take (Tryz.prog.cellsOf 3))=some y6:=t6
 rw[jQ,take_one (c:=c6) rfl]at t6
 obtain⟨y7,t7,b7⟩:=hf 7 _ rfl
 replace t7:DataW.trod enc Tryz.prog w base spare held n 3 (([c0,c1,c2,c3,c4,c5,c6,c7,c8,c9].drop 7).take (Tryz.prog.cellsOf 3))=some y7:=t7
 rw[jQ,take_one (c:=c7) rfl]at t7
 obtain⟨y8,t8,b8⟩:=hf 8 _ rfl
 replace t8:DataW.trod enc Tryz.prog w base spare held n 3 (([c0,c1,c2,c3,c4,c5,c6,c7,c8,c9].drop 8).take (Tryz.prog.cellsOf 3))=some y8:=t8
 rw[jQ,take_one (c:=c8) rfl]at t8
 obtain⟨y9,t9,b9⟩:=hf 9 _ rfl
 replace t9:DataW.trod enc Tryz.prog w base spare held n 3 (([c0,c1,c2,c3,c4,c5,c6,c7,c8,c9].drop 9).take (Tryz.prog.cellsOf 3))=some y9:=t9
 rw[jQ,take_one (c:=c9) rfl]at t9
 obtain⟨n0,rfl,hs0⟩:=ED t0 b0
 obtain⟨n1,rfl⟩:=jR t1
 clear b1
 obtain⟨n2,rfl⟩:=jR t2
 clear b2
 obtain⟨n3,rfl⟩:=jR t3
 clear b3
 obtain⟨n4,rfl⟩:=jR t4
 clear b4
 obtain⟨n5,rfl⟩:=jR t5
 clear b5
 obtain⟨n6,rfl⟩:=jR t6
 clear b6
 obtain⟨n7,rfl⟩:=jR t7
 clear b7
 obtain⟨n8,rfl⟩:=jR t8
 clear b8
 obtain⟨n9,rfl⟩:=jR t9
 clear b9
 exact⟨⟨n0,n1,n2,n3,n4,n5,n6,n7,n8,n9⟩,rfl,hs0⟩
end
end Go.Proofs.YtpfifochimkpfaaGreatDoor
namespace Go.Proofs.YtpfifochimkpfaaGreatDoor
open Go.ChangeShapes Go.WideShapes Go.ChangeAt Go.RowKit Go.WW Go.Deep
theorem laidOut:laidOutB Tryz.prog=true:=by kernel_rfl
section
variable {H:Type} {enc:TypeId×Value→H}
theorem stays{W W':World}{t:TypeId}{v:Value}{d:DataW H}{ps:List MemPlace}(hr:Tryz.prog.readableRec t=true)(hrow:t<Tryz.prog.types.size)(h:DataW.Trod enc Tryz.prog W 0 (fun _=>true) true t v d ps)(hb:Below W.heap.size W W')(hlt:∀x∈ps,x.block<W.heap.size)
  {sp:Nat→Bool} (hsp:∀x∈ps,sp x.block=true):DataW.Trod enc Tryz.prog W' 0 sp true t v d ps:=
 WideElems.Trod_stays laidOut hr hrow h (fun x hx=>hb.same (hlt x hx)) hsp
theorem amg{f:Func}{s:ChangeSpec}{fresh handsOn again apart:Bool}{W W':World}{args:Array Value}{v:Value}{ds:List (DataW H)}{before:List MemPlace}
  (hW:DataW.Whole enc Tryz.prog f.params.toList s.vars apart W args.toList ds [] before)
  (hres:∀(b:Nat) (sp:Nat→Bool) (hd:Bool),DataW.TrodAll enc Tryz.prog W' b sp hd f.resultTypes.toList (v.resultList f.resultTypes.size) (s.fn H (ds++[])).results [])
  (hargs:∀sp:Nat→Bool,(∀p∈before,sp p.block=true)→DataW.TrodAll enc Tryz.prog W' 0 sp true f.params.toList args.toList (s.fn H (ds++[])).args before)
  (hvars:∀sp:Nat→Bool,DataW.TrodVars enc Tryz.prog W' sp s.vars (s.fn H (ds++[])).vars [])
  (hb:Below W.heap.size W W') (hok:∀(j:Nat) (t:TypeId) (r:Value),f.resultTypes[j]?=some t→(v.resultList f.resultTypes.size)[j]?=some r→Value.okWide Tryz.prog W' .any 0 t r) :
  s.post enc Tryz.prog f apart fresh handsOn again W args v W':=by
 have hold:∀q∈before,decide (q.block<W.heap.size)=true:=fun q hq=>by simpa using hW.lt q hq
 have hlt:=hW.lt
 refine⟨ds,[],before,[],before,[],hW,hres _ _ _,hargs _ hold,hvars _,World.keptBut_mono (fun q hq=>⟨hq,.inr (.inl hq)⟩) (hb.frame (·∈before)),fun _=>?_⟩
 obtain⟨_,_,_,_,_,hz,hn⟩:=hW
 refine⟨hok,_,_,([]++before)++[],⟨[]++before,[],trodAll_append (hargs _ (fun _ _=>rfl)) (hres _ _ _),hvars _,rfl,fun b off hq=>?_,fun ha=>?_⟩,fun q hq _=>?_⟩
 ·have hin:MemPlace.cell b off∈before:=by simpa using hq
  rw[hb.frozen (hlt _ hin)]
  exact hz b off hin
 ·simpa using hn ha
 ·simpa using hq
end
end Go.Proofs.YtpfifochimkpfaaGreatDoor
namespace Go.WW
def failed(d:Entry)(k:Nat)(now:Int):Entry:={d with fails:=(k:Int),dw:=if k=0 then d.dw else now}
end Go.WW
namespace Go.Proofs.YtpfifochimkpfaaGreatDoor
open Go.RowKit Go.WW
structure HS(V:World)(B X:Nat)(p:ah)(r:aK)(d:Entry):Prop where
 p:V.heap[B]?=some (.cells (ak p) 52)
 x:V.heap[X]?=some (.cells (ae r d) 44)
 d:bu V (fun k=>k≠X∧k<V.heap.size) (fun y=>aS y r d)
 ne:B≠X
theorem HS.later{V V':World}{B X:Nat}{p:ah}{r:aK}{d:Entry}(h:HS V B X p r d)(hb:Below V.heap.size V V'):HS V' B X p r d:=
 ⟨aI hb h.p,aI hb h.x,h.d.to (fun k hk=>hb.block k hk.2) (fun _ hk=>⟨hk.1,Nat.lt_of_lt_of_le hk.2 hb.size⟩),h.ne⟩
theorem HS.put{V V':World}{B X:Nat}{p:ah}{r r':aK}{d d':Entry}{o:Obj}(h:HS V B X p r d)(hb:Below V.heap.size V V')(hd:bu V' (fresh V.heap.size V') (fun x=>aS x r' d')):HS (putRow (V'.alloc o) X 0 (ae r' d')) B X p r' d':=by
 have hX:X<V.heap.size:=(Array.getElem?_eq_some_iff.1 h.x).1
 have hP:B<V.heap.size:=(Array.getElem?_eq_some_iff.1 h.p).1
 have hs:=hb.size
 have e1:(V'.alloc o).heap[X]?=some (.cells (ae r d) 44):=by rw[Below.heap_alloc _ _ _ (by omega)];exact aI hb h.x
 refine⟨?_,?_,?_,h.ne⟩
 ·rw[gU h.ne,Below.heap_alloc _ _ _ (by omega)];exact aI hb h.p
 ·rw[jk e1 (by simp[go_sem]),kR (by simp[go_sem])]
 ·refine hd.to (fun k hk=>?_) (fun k hk=>⟨by have:=hk.1;omega,by rw[gV];have:=hk.2;simp;omega⟩)
  have h1:=hk.1
  have h2:=hk.2
  rw[gU (by omega),Below.heap_alloc _ _ _ h2]
theorem HS.pF{V:World}{B X:Nat}{p:ah}{r:aK}{d:Entry}(h:HS V B X p r d):aS V r d:=h.d.out
theorem HS.new{V V':World}{B:Nat}{p:ah}{r:aK}{d:Entry}{T:TypeId}(hT:T=44)(hp:V.heap[B]?=some (.cells (ak p) 52))(hb:Below V.heap.size V V')(hd:bu V' (fresh V.heap.size V') (fun x=>aS x r d)):HS (V'.alloc (.cells (ae r d) T)) B V'.heap.size p r d:=by
 subst hT
 have hP:B<V.heap.size:=(Array.getElem?_eq_some_iff.1 hp).1
 have hs:=hb.size
 refine⟨?_,World.alloc_heap_new _ _,?_,by omega⟩
 ·rw[Below.heap_alloc _ _ _ (by omega)];exact aI hb hp
 ·refine hd.to (fun k hk=>Below.heap_alloc _ _ _ hk.2) (fun k hk=>⟨by have:=hk.2;omega,by have:=hk.2;simp;omega⟩)
end Go.Proofs.YtpfifochimkpfaaGreatDoor
namespace Go.WW
open Go.RowKit
structure wL where
 unlock:Bool
 success:Bool
 time:Int
def O8(t:wL):Array Value:=#[.bool t.unlock,.bool t.success,.int .i64 t.time]
def wM(w:World)(a:Option Addr)(l:List wL):Prop:=bH w 3 a l.length fun i cs=>∃t,l[i]?=some t∧cs=O8 t
theorem wM.later{w w':World}(h:Below w.heap.size w w'){a:Option Addr}{l:List wL}(x:wM w a l):wM w' a l:=bH.later h (fun _ _ y=>y) x
theorem wM.cells{w:World}{b o:Nat}{l:List wL}(x:wM w (some ⟨b,o,none⟩) l)(i:Nat)(h:i<l.length) :
  w.cell? ⟨b,o+i*3,none⟩=some (.bool l[i].unlock)∧w.cell? ⟨b,o+i*3+1,none⟩=some (.bool l[i].success)∧w.cell? ⟨b,o+i*3+2,none⟩=some (.int .i64 l[i].time):=by
 obtain⟨b',o',cs,ha,hr,t,ht,rfl⟩:=x.2 i h
 cases ha
 rw[List.getElem?_eq_getElem h]at ht
 cases ht
 exact⟨ji hr 0 (by omega),ji hr 1 (by omega),ji hr 2 (by omega)⟩
end Go.WW
namespace Go.Proofs.YtpfifochimkpfaaGreatDoor
open Go.ChangeShapes Go.WideShapes Go.ChangeAt Go.RowKit Go.WW Go.Deep
theorem Yv:Tryz.prog.cellsOf 37=3:=by kernel_rfl
theorem Yw:Tryz.prog.cellsOf 4=1:=by kernel_rfl
theorem amh:Tryz.prog.readableRec 25=true:=by kernel_rfl
theorem ami:25<Tryz.prog.types.size:=of_decide_eq_true (by kernel_rfl)
section
variable {H:Type} {enc:TypeId×Value→H} {w:World} {base:Nat} {spare:Nat→Bool} {held:Bool} {fuel:Nat} {x:DataW H×List MemPlace}
theorem Yx{v:Value}(h:DataW.trod enc Tryz.prog w base spare held fuel 4 [v]=some x):∃b:Bool,v=.bool b:=by
 obtain⟨b,hs,_⟩:=DataW.trod_bool Tryz.underlying4 h
 exact⟨b,by simpa using hs⟩
theorem amj{cs:List Value}(h:DataW.trod enc Tryz.prog w base spare held fuel 37 cs=some x)(hb:Rows.uptoBulk x.1≤1048576):∃t:wL,cs=(O8 t).toList:=by
 obtain⟨hl,n,hf⟩:=BM Tryz.underlying37 h hb
 rw[Yv]at hl
 obtain⟨c0,c1,c2,rfl⟩:=Ym hl
 obtain⟨y0,t0,b0⟩:=hf 0 _ rfl
 replace t0:DataW.trod enc Tryz.prog w base spare held n 4 (([c0,c1,c2].drop 0).take (Tryz.prog.cellsOf 4))=some y0:=t0
 rw[Yw,take_one (c:=c0) rfl]at t0
 obtain⟨y1,t1,b1⟩:=hf 1 _ rfl
 replace t1:DataW.trod enc Tryz.prog w base spare held n 4 (([c0,c1,c2].drop 1).take (Tryz.prog.cellsOf 4))=some y1:=t1
 rw[Yw,take_one (c:=c1) rfl]at t1
 obtain⟨y2,t2,b2⟩:=hf 2 _ rfl
 replace t2:DataW.trod enc Tryz.prog w base spare held n 3 (([c0,c1,c2].drop 2).take (Tryz.prog.cellsOf 3))=some y2:=t2
 rw[jQ,take_one (c:=c2) rfl]at t2
 obtain⟨n0,rfl⟩:=Yx t0
 obtain⟨n1,rfl⟩:=Yx t1
 obtain⟨n2,rfl⟩:=jR t2
 exact⟨⟨n0,n1,n2⟩,rfl⟩
theorem amk{v:Value}(h:DataW.trod enc Tryz.prog w base spare held fuel 25 [v]=some x)(hb:Rows.uptoBulk x.1≤1048576):∃(s:Sl) (l:List wL),v=.slice s.a l.length s.cap∧wM w s.a l:=by
 obtain⟨s,n,hv,hn,hel⟩:=wK Tryz.underlying25 Yv (by omega) h hb
 obtain⟨l,hl,hr⟩:=uO (R:=fun i (a:wL)=>∃b o,s.a=some ⟨b,o,none⟩∧row? w b (o+i*3) 3=some (O8 a)) (n:=n) (fun i hi=>by
  obtain⟨b,o,cs,f',y,ha,hrow,ht,hby⟩:=hel i hi
  obtain⟨p,hcs⟩:=amj ht hby
  exact⟨p,b,o,ha,by rw[hrow,←Array.toList_inj.1 hcs]⟩)
 refine⟨s,l,by rw[hl];exact hv,by rw[hl];exact uP hn,fun i hi=>?_⟩
 obtain⟨b,o,h1,h2⟩:=hr i l[i] (List.getElem?_eq_getElem hi)
 exact⟨b,o,_,h1,h2,l[i],List.getElem?_eq_getElem hi,rfl⟩
theorem aml{W:World}{b0:Nat}{v:Value}{d:DataW H}{p:List MemPlace}(_hv:Value.okWide Tryz.prog W .any b0 25 v)(h:DataW.Trod enc Tryz.prog W 0 (fun _=>true) true 25 v d p)(hb:Rows.uptoBulk d≤1048576) :
  ∃(s:Sl) (l:List wL),v=.slice s.a l.length s.cap∧wM W s.a l:=by
 obtain⟨a,len,cap,rfl⟩:=okWide_slice Tryz.underlying25 _hv
 obtain⟨fuel,hf⟩:=h
 exact amk hf hb
end
end Go.Proofs.YtpfifochimkpfaaGreatDoor
namespace Go.WW
open Go.RowKit
section
variable {P:Program} {ops:Array Oper} {S:World→Prop} {Q:Act→World→Prop} {n:Nat}
def qF(n:Nat)(o:Oper):Bool:=looks o&&!(o.dst == some n)
theorem amm{o:Oper}(h:qF n o=true):looks o=true:=by unfold qF at h;simp at h;exact h.1
theorem qG{o:Oper}{rest:List Oper}{a:Act}{w:World}(hw:Region.wanted o (yielded ops a.tmps)=true)(hs:qF n o=true)
  (h:∀K:Act→Prop,(∀a',aG P ops (qF n) S Q rest a' w→K a')→o.quiet P a S K):aG P ops (qF n) S Q (o::rest) a w:=by
 rw[bF,if_pos hw,if_pos hs]
 obtain⟨v,hv,hh⟩:=h _ (fun _ x=>x)
 refine⟨v,fun w' hw'=>?_,hh⟩
 have:=hv w' hw'
 unfold Oper.quietAt at this
 rcases BR (P:=P) (amm hs) a.eval w' with⟨u,w'',e⟩|⟨x,w'',e⟩
 ·rw[e]at this ⊢
  obtain⟨rfl,rfl⟩:=this
  rfl
 ·rw[e]at this
  exact this.elim
theorem xY{o:Oper}{rest:List Oper}{a:Act}{w:World}(hw:Region.wanted o (yielded ops a.tmps)=true)(hs:qF n o=false)
  (h:∀K:Act→World→Prop,(∀a' w',S w'→aG P ops (qF n) S Q rest a' w'→K a' w')→o.wp P a w K never):aG P ops (qF n) S Q (o::rest) a w:=by
 rw[bF,if_pos hw,if_neg (by simp[hs])]
 exact h _ (fun _ _ x y=>⟨x,y⟩)
end
end Go.WW
