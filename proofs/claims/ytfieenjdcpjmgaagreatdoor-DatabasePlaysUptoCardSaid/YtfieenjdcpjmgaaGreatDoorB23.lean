/- A part of the proof. -/
import Derived.Test.YtfieenjdcpjmgaaGreatDoorB21
import Derived.Test.YtfieenjdcpjmgaaGreatDoorB22
import Derived.Test.YtfieenjdcpjmgaaGreatDoorB11
set_option maxRecDepth 100000
set_option maxHeartbeats 4000000
namespace Go.WW
open Go.RowKit
section
variable {P:Program} {ops:Array Oper} {S:World→Prop} {st:Oper→Bool} {Q:Act→World→Prop}
theorem akE{m:Array (List Nat)}(hok:qM st ops m){Q':Exit→Act→World→Prop}{z:Oper}{N:Nat}(hN:ops.size=N+1)(hz:ops[N]?=some z)(hzg:z.guard=none)(Ns:∀i,i<N→(∃e∈z.after,Region.binds .any e=true∧e.on=i)∨∃e∈z.after,Region.binds .any e=true∧∃o',ops[e.on]?=some o'∧∃e'∈o'.after,Region.binds .any e'=true∧e'.on=i)
  (hQ:∀a w,Q a w→z.wp P a w (fun a' w'=>Q' .normal a' w') never) :
  ∀(n:Nat) (L:List Nat) (listed:Array Bool) (a:Act) (w:World),L.length=n→L.Pairwise (· < ·)→listed.size=ops.size→listed.getD N true=false→(∀j,j∈L↔j<N∧listed.getD j true=false)→
   (∀k o,ops[k]?=some o→listed.getD k false=true→∀e∈o.after,Region.binds .any e=true→listed.getD e.on false=true)→
   S w→aH P ops st S Q (L.filterMap (ops[·]?)) a w→wpAny P .any ops Q' (n+1) listed a w:=by
 intro n
 induction n with
 |zero=>
  intro L listed a w hn _ hsz zh hL hdown _ h
  have:L=[]:=List.eq_nil_of_length_eq_zero hn
  subst this
  have hls:∀i,i<N→listed.getD i false=true:=fun i hi=>by
   have h2:listed.getD i true≠false:=fun hf=>by have:=(hL i).2 ⟨hi,hf⟩;cases this
   have hes:i<listed.size:=by omega
   simp[hes]at h2 ⊢;exact h2
  refine⟨fun hr=>?_,fun i hi=>?_⟩
  ·have:N∈Region.ready .any ops listed:=mem_ready.2 ⟨zh,z,hz,fun e he hb=>hls _ (by have:=hok.back N z hz e he hb;exact this)⟩
   rw[hr]at this;cases this
  ·obtain⟨h0,o,ho,_⟩:=mem_ready.1 hi
   have his:i<ops.size:=(Array.getElem?_eq_some_iff.1 ho).1
   have hiN:i=N:=Classical.byContradiction fun hne=>by
    have:=(hL i).2 ⟨by omega,h0⟩;cases this
   subst hiN
   rw[hz]at ho;cases ho
   have hend:∀a' w',Q' .normal a' w'→wpAny P .any ops Q' 0 (listed.setIfInBounds i true) a' w':=fun a' w' hq=>by
    refine⟨?_,hq⟩
    cases hr:Region.ready .any ops (listed.setIfInBounds i true)with
    |nil=>rfl
    |cons k r=>
     have hk:k∈Region.ready .any ops (listed.setIfInBounds i true):=by rw[hr];simp
     obtain⟨h1,o',ho',_⟩:=mem_ready.1 hk
     have hks:k<ops.size:=(Array.getElem?_eq_some_iff.1 ho').1
     exfalso
     by_cases hki:k=i
     ·subst hki
      have:k<listed.size:=by omega
      simp[this]at h1
     ·rw[getD_set_ne true (Ne.symm hki)]at h1
      have:=(hL k).2 ⟨by omega,h1⟩;cases this
   unfold wpOp
   simp only[hz,Region.wanted,hzg,if_true]
   exact .inl (qL (Oper.wp_mono (fun a' w' hh=>hend a' w' hh) (hQ _ _ h)))
 |succ n ih=>
  intro L listed a w hn hsort hsz zh hL hdown hS h
  refine⟨fun hr=>?_,fun i hi=>?_⟩
  ·exfalso
   cases L with
   |nil=>simp at hn
   |cons j L=>
    obtain⟨hj,hjl⟩:=(hL j).1 (by simp)
    have hj':j<ops.size:=by omega
    have hoj:ops[j]?=some ops[j]:=by simp[hj']
    have:j∈Region.ready .any ops listed:=by
     refine mem_ready.2 ⟨hjl,_,hoj,fun e he hb=>?_⟩
     have hlt:=hok.back j _ hoj e he hb
     have hnot:e.on∉j::L:=by
      intro hmem
      rcases List.mem_cons.1 hmem with h1|h1
      ·omega
      ·have:=(List.pairwise_cons.1 hsort).1 _ h1;omega
     have h2:listed.getD e.on true≠false:=fun hf=>hnot ((hL e.on).2 ⟨by omega,hf⟩)
     have hes:e.on<listed.size:=by omega
     simp[hes]at h2 ⊢;exact h2
    rw[hr]at this;cases this
  ·obtain⟨h0,o,ho,hall⟩:=mem_ready.1 hi
   have his:i<ops.size:=(Array.getElem?_eq_some_iff.1 ho).1
   have hiN:i≠N:=fun e=>by
    subst e
    rw[hz]at ho;cases ho
    cases L with
    |nil=>simp at hn
    |cons j L=>
     obtain⟨hj,hjl⟩:=(hL j).1 (by simp)
     rcases Ns j hj with⟨e,he,hb,rfl⟩|⟨e,he,hb,o',ho',e',he',hb',rfl⟩
     ·have:=hall e he hb
      rw[sV this]at hjl;cases hjl
     ·have:=hdown e.on o' ho' (hall e he hb) e' he' hb'
      rw[sV this]at hjl;cases hjl
   have hiL:i∈L:=(hL i).2 ⟨by omega,h0⟩
   obtain⟨L1,L2,rfl⟩:=List.append_of_mem hiL
   have dN:=List.pairwise_append.1 hsort
   have hlt1:∀x∈L1,x<i:=fun x hx=>dN.2.2 x hx i (by simp)
   have hgt2:∀x∈L2,i<x:=fun x hx=>(List.pairwise_cons.1 dN.2.1).1 x hx
   rw[List.filterMap_append,List.filterMap_cons_some ho]at h
   have bY:=lV (P:=P) (ops:=ops) (S:=S) (st:=st) (Q:=Q) (Region.noSelect_spec hok.jl i o · · ho) (L1.filterMap (ops[·]?)) (fun x hx=>by
    obtain⟨k,hk,hox⟩:=List.mem_filterMap.1 hx
    have hkl:=((hL k).1 (by simp[hk])).2
    have hnl:¬listed.getD k false=true:=fun hf=>by rw[sV hf]at hkl;cases hkl
    refine⟨(Region.noSelect_spec hok.jl k x · · hox),?_⟩
    rcases hok.pair i o ho k (hlt1 k hk) x hox with⟨e,he,hb,rfl⟩|⟨hap,hor⟩
    ·exact absurd (hall e he hb) hnl
    ·refine⟨hap,?_⟩
     rcases hor with h1|h1|h1
     ·exact .inl h1
     ·exact .inr h1
     ·exact absurd (Ad hok hdown i o ho hall k h1) hnl) a w hS h
   have hrest:∀a' w',S w'→aH P ops st S Q (L1.filterMap (ops[·]?)++L2.filterMap (ops[·]?)) a' w'→wpAny P .any ops Q' (n+1) (listed.setIfInBounds i true) a' w':=by
    intro a' w' hS' hh
    rw[←List.filterMap_append]at hh
    refine ih (L1++L2) (listed.setIfInBounds i true) a' w' ?_ ?_ (by simpa using hsz) (by rw[getD_set_ne true hiN];exact zh) ?_ ?_ hS' hh
    ·simp at hn ⊢;omega
    ·exact List.pairwise_append.2 ⟨dN.1,(List.pairwise_cons.1 dN.2.1).2,fun x hx y hy=>dN.2.2 x hx y (by simp[hy])⟩
    ·intro j
     by_cases hji:j=i
     ·subst hji
      constructor
      ·intro hm
       exfalso
       rcases List.mem_append.1 hm with h1|h1
       ·have:=hlt1 _ h1;omega
       ·have:=hgt2 _ h1;omega
      ·rintro⟨_,hf⟩
       have:j<listed.size:=by omega
       simp[this]at hf
     ·rw[getD_set_ne true (Ne.symm hji),←hL j]
      simp[hji]
    ·intro k ok hk hkl e he hb
     by_cases hki:k=i
     ·subst hki
      rw[ho]at hk;cases hk
      exact getD_set_true (hall e he hb)
     ·rw[getD_set_ne false (Ne.symm hki)]at hkl
      exact getD_set_true (hdown k ok hk hkl e he hb)
   unfold wpOp
   simp only[ho]
   rw[bJ]at bY
   split
   ·rename_i hw
    rw[if_pos hw]at bY
    refine .inl ?_
    by_cases hs:st o=true
    ·rw[if_pos hs]at bY
     obtain⟨v,hv,hh⟩:=bY
     unfold Oper.wp
     rw[hv w hS]
     exact hrest _ _ hS hh
    ·rw[if_neg hs]at bY
     exact qL (Oper.wp_mono (fun a' w' hh=>hrest a' w' hh.1 hh.2) bY)
   ·rename_i hw
    rw[if_neg hw]at bY
    exact hrest _ _ hS bY
end
def Xf(ops:List Oper):Bool:=
 match ops.getLast? with
 |some z=>z.guard.isNone&&(List.range (ops.length-1)).all fun i=>z.after.toList.any fun e=>Region.binds .any e&&(e.on == i || (match ops[e.on]? with|some o=>o.after.toList.any fun e'=>Region.binds .any e'&&e'.on == i|none=>false))
 |none=>false
theorem Xg{P:Program}{id:Nat}{Q':Exit→Act→World→Prop}{a:Act}{w:World}{l:List Oper}(S:World→Prop)(st:Oper→Bool)(hm:P.follows .mixedOrders=true)(hB:lW st l.toArray=true)(hZ:Xf l=true)
  (hS:S w.drew) (h:aH P l.toArray st S (vJ P l fun a' w'=>Q' .normal a' w') l.dropLast a w.drew):(Code.region id l.toArray true).wp P Q' a w:=by
 refine wp_region_any hm ?_
 unfold Xf at hZ
 cases hg:l.getLast? with
 |none=>rw[hg]at hZ;cases hZ
 |some z=>
  rw[hg]at hZ
  simp only[Bool.and_eq_true,List.all_eq_true,List.mem_range]at hZ
  obtain⟨hz1,hz2⟩:=hZ
  have hne:l≠[]:=fun e=>by rw[e]at hg;cases hg
  have hlen:l.length=l.length-1+1:=by have:=List.length_pos_iff.2 hne;omega
  have hzi:l.toArray[l.length-1]?=some z:=by
   rw[List.getLast?_eq_getElem?]at hg;simpa using hg
  have hfm:(List.range (l.length-1)).filterMap (l.toArray[·]?)=l.dropLast:=by
   rw[List.dropLast_eq_take]
   have:∀n,(List.range n).filterMap (fun i=>l.toArray[i]?)=l.take n:=by
    intro n
    induction n with
    |zero=>simp
    |succ n ih=>
     rw[List.range_succ,List.filterMap_append,ih]
     by_cases hn:n<l.length
     ·rw[List.take_succ_eq_append_getElem hn];simp[hn]
     ·simp[hn,List.take_of_length_le (show l.length≤n by omega),List.take_of_length_le (show l.length≤n+1 by omega)]
   exact this _
  have:=akE (P:=P) (S:=S) (Q:=vJ P l fun a' w'=>Q' .normal a' w') (yc hB) (Q':=Q') (z:=z) (N:=l.length-1) (by simpa using hlen) hzi (by simpa using hz1) (fun i hi=>by
    have:=hz2 i hi
    simp only[List.any_eq_true,Bool.and_eq_true,Bool.or_eq_true,beq_iff_eq]at this
    obtain⟨e,he,hb,h1|h1⟩:=this
    ·exact .inl ⟨e,by simpa using he,hb,h1⟩
    ·cases Nw:l[e.on]? with
     |none=>rw[Nw]at h1;cases h1
     |some o=>
      rw[Nw]at h1
      simp only[List.any_eq_true,Bool.and_eq_true,beq_iff_eq]at h1
      obtain⟨e',he',hb',h2⟩:=h1
      exact .inr ⟨e,by simpa using he,hb,o,by simpa using Nw,e',by simpa using he',hb',h2⟩) (fun a' w' hq=>by unfold vJ at hq;rw[hg]at hq;exact hq) (l.length-1) (List.range (l.length-1)) (Array.replicate l.toArray.size false) a w.drew
   (by simp) List.pairwise_lt_range (by simp) (by
     have:l.length-1<l.length:=by omega
     simp[this]) (by intro j;simp;intro h1;simp[show j<l.length by omega]) (by intro k o hk hkl;exfalso;rw[Array.getD_eq_getD_getElem?,Array.getElem?_replicate]at hkl;split at hkl<;>simp at hkl) hS (by rw[hfm];exact h)
  rw[←hlen]at this
  simpa using this
end Go.WW
namespace Go.WW
open Go.RowKit
def Ih(W0 w:World)(s:Sl):Nat→Prop:=fun j=>(W0.heap.size≤j∧j<w.heap.size)∨(j=w.heap.size∨j=w.heap.size+1)∨some j=s.blk
structure Ny(W0 w W3:World)(T:TypeId)(s2:Sl)(rK:List (Array Value))(L:List bC)(k:Nat)(R:List (Array Value))(wr:World):Prop where
 but:But (fun j=>some j=s2.blk) W3 wr
 own:∃b2,w.heap.size+2≤b2∧Own wr b2 T 5 s2 R∧∀g,s2.blk=some g→g<W3.heap.size
 len:R.length=L.length
 done:∀j (h:j<R.length) (h':j<L.length),j<k→∃s:Sl,R[j]=bz s L[j]∧∀y,But (Ih W0 w s2) wr y→uw (span w.heap.size wr.heap.size) y s.a L[j].keys
 rest:∀j (h:j<R.length) (h':j<rK.length),k≤j→R[j]=rK[j]
structure Nz(W0 w V:World)(base:Nat)(T:TypeId)(s2 s3:Sl)(rk:List (Array Value))(L:List Key)(q:Nat)(R:List (Array Value))(wr:World):Prop where
 but:But (fun j=>some j=s3.blk) V wr
 own:Own wr base T 3 s3 R
 len:R.length=L.length
 done:∀j (h:j<R.length) (h':j<L.length),j<q→∃s:Sl,R[j]=bZ s L[j]∧∀y,But (fun i=>Ih W0 w s2 i∨some i=s3.blk) wr y→xG (span w.heap.size wr.heap.size) y s.a L[j].bytes
 rest:∀j (h:j<R.length) (h':j<rk.length),q≤j→R[j]=rk[j]
theorem xG.mono{S T:Nat→Prop}{w:World}{a:Option Addr}{l:List UInt8}(h:xG S w a l)(hS:∀b,S b→T b):xG T w a l:=⟨h.1,h.2.mono hS⟩
end Go.WW
namespace Go.Proofs.YtfieenjdcpjmgaaGreatDoor
open Go.RowKit Go.WW
def akF(W0:World)(d:Entry)(w:World)(z:Ending)(w':World):Prop:=
 ∃r',z=.returned (.agg (ae r' d))∧Below w.heap.size w w'∧∀y,But (fun k=>W0.heap.size≤k∧k<w.heap.size) w' y→pF (span w.heap.size w'.heap.size) y r' d
theorem akG(W0:World)(r:aN)(d:Entry)(w:World)(hW:Below W0.heap.size W0 w)(he:bK W0 r d):Calls Tryz.prog 33 #[.agg (ae r d)] w (akF W0 d w):=by
 have hW0:=hW.size
 have n0:d.name.parts.length≤4294967000:=he.name.1.1
 have n1:d.aliases.length≤4294967000:=he.aliases.1
 have n2:d.keys.length≤4294967000:=he.keys.1
 obtain⟨rP,lP,sP,qP⟩:=dY.src he.name.1 TZ
 obtain⟨rA,lA,sA,qA⟩:=aX.src he.aliases CU
 obtain⟨rK,lK,sK,qK⟩:=aX.src he.keys akw
 have LP:=Lib.hid lP
 have LA:=Lib.hid lA
 have LK:=Lib.hid lK
 have SP:=Lib.hid sP
 have SA:=Lib.hid sA
 have SK:=Lib.hid sK
 have QP:=Lib.hid qP
 have QA:=Lib.hid qA
 have QK:=Lib.hid qK
 have HE:=Lib.hid he
 clear lP lA lK sP sA sK qP qA qK he
 go_enter Tryz.func33,Tryz.ntmps33
 go_step
 apply Ig (M:=fun V=>Below w.heap.size w V∧V.heap[w.heap.size]?=some (.cells (ae r d) 47)∧aS V (w.heap.size+1) 0 17=true∧w.heap.size+2≤V.heap.size)
 case h1=>
  go_wp2_with fail
  rw[←nN]
  exact⟨rfl,⟨aj (aj (Below.refl _ w) _) _,jq w _ _,by simp[go_sem],by simp⟩⟩
 rintro V0 ⟨hB0,hx0,hz0,hs0⟩
 iterate 3 go_step
 obtain⟨hc,hf,hr,hl⟩:=aB hx0
 apply qy (M:=fun(s:Sl) V=>Go.WW.Own V V0.heap.size 9 1 s rP∧V.heap[w.heap.size]?=some (.cells (ae {r with parts:=s} d) 47)∧But (·=w.heap.size) V0 V)
 case h1=>
  have HS:=Lib.hid ((SP.out.later hW).later (ag hB0 (aj (Below.refl _ V0) (.cells #[] 9))))
  have hown:=Own.empty V0 9 1
  go_wp2_with (
    at_builtin;go_loud (refine gI rfl (.tmp 5) (.tmp 8) _ rfl Ub (n:=0) (s:=⟨some ⟨V0.heap.size,0,none⟩,0⟩) rfl rfl hown rfl LP.out.symm HS.out (by rw[LP.out];simp;omega) (by simp) ?_);intro s3 w3 hown3 hg3 gJ
    have hb3:=DZ hown (aj (Below.refl _ V0) _) hg3
    have hx3:=aJ hb3 hx0
    obtain⟨hc3,hf3,hr3,hl3⟩:=aB hx3)
  obtain⟨q1,q2,q3⟩:=Nu (o:=0) hown3 hb3 hx0 (.slice s3.a d.name.parts.length s3.cap)
  rw[aky]at q2
  exact⟨s3,rfl,⟨q1,q2,q3⟩⟩
 rintro s0 V1 ⟨ho1,hx1,Ii⟩
 have hB1:Below w.heap.size w V1:=((But.of_below (S:=fun _=>False) hB0).past Ii (fun j hj=>by omega)).below (Nat.le_refl _) (fun _ h=>h.elim)
 have hg0:∀g,s0.blk=some g→w.heap.size+2≤g∧g<V1.heap.size:=fun g hg=>⟨Nat.le_trans hs0 (ho1.base hg).1,(ho1.base hg).2⟩
 have hs1:V0.heap.size≤V1.heap.size:=Ii.size
 have hz1:aS V1 (w.heap.size+1) 0 17=true:=by rw[sS (Ii.block _ (by omega) (by omega))];exact hz0
 clear hc hf hr hl hx0 hz0
 generalize hr1:({r with parts:=s0}:aN)=r1 at *
 obtain⟨hc,hf,hr,hl⟩:=aB hx1
 iterate 3 go_step
 apply qy (M:=fun(s:Sl) V=>Go.WW.Own V V1.heap.size 40 2 s rA∧V.heap[w.heap.size]?=some (.cells (ae {r1 with aliases:=s} d) 47)∧But (·=w.heap.size) V1 V)
 case h1=>
  have HS:=Lib.hid ((SA.out.later hW).later (ag hB1 (aj (Below.refl _ V1) (.cells #[] 40))))
  have hown:=Own.empty V1 40 2
  have ha1:r1.aliases=r.aliases:=by rw[←hr1]
  rw[←ha1]at HS
  clear ha1
  go_wp2_with (
    at_builtin;refine gI rfl (.tmp 12) (.tmp 14) _ rfl AB (n:=0) (s:=⟨some ⟨V1.heap.size,0,none⟩,0⟩) rfl rfl hown rfl LA.out.symm HS.out (by rw[LA.out];simp;omega) (by simp) ?_;intro s3 w3 hown3 hg3 gJ
    have hb3:=DZ hown (aj (Below.refl _ V1) _) hg3
    have hx3:=aJ hb3 hx1
    obtain⟨hc3,hf3,hr3,hl3⟩:=aB hx3)
  obtain⟨q1,q2,q3⟩:=Nu (o:=2) hown3 hb3 hx1 (.slice s3.a d.aliases.length s3.cap)
  rw[akz]at q2
  exact⟨s3,rfl,⟨q1,q2,q3⟩⟩
 rintro s1 V2 ⟨ho2,hx2,D5⟩
 have hB2:Below w.heap.size w V2:=((But.of_below (S:=fun _=>False) hB1).past D5 (fun j hj=>by omega)).below (Nat.le_refl _) (fun _ h=>h.elim)
 have hg1:∀g,s1.blk=some g→w.heap.size+2≤g∧g<V2.heap.size:=fun g hg=>⟨by have:=(ho2.base hg).1;omega,(ho2.base hg).2⟩
 have hs2:V1.heap.size≤V2.heap.size:=D5.size
 have hz2:aS V2 (w.heap.size+1) 0 17=true:=by rw[sS (D5.block _ (by omega) (by omega))];exact hz1
 have Xh:=ho1.but D5 (fun g hg=>by have:=hg0 g hg;omega)
 have hk1:=Lib.hid (show r1.keys=r.keys by rw[←hr1])
 clear hc hf hr hl hx1 hz1
 generalize hr2:({r1 with aliases:=s1}:aN)=r2 at *
 obtain⟨hc,hf,hr,hl⟩:=aB hx2
 iterate 3 go_step
 apply qy (M:=fun(s:Sl) V=>Go.WW.Own V V2.heap.size 67 5 s rK∧V.heap[w.heap.size]?=some (.cells (ae {r2 with keys:=s} d) 47)∧But (·=w.heap.size) V2 V)
 case h1=>
  have HS:=Lib.hid ((SK.out.later hW).later (ag hB2 (aj (Below.refl _ V2) (.cells #[] 67))))
  have hown:=Own.empty V2 67 5
  have ha1:r2.keys=r.keys:=by rw[←hr2];exact hk1.out
  rw[←ha1]at HS
  clear ha1
  go_wp2_with (
    at_builtin;refine gI rfl (.tmp 17) (.tmp 19) _ rfl Ud (n:=0) (s:=⟨some ⟨V2.heap.size,0,none⟩,0⟩) rfl rfl hown rfl LK.out.symm HS.out (by rw[LK.out];simp;omega) (by simp) ?_;intro s3 w3 hown3 hg3 gJ
    have hb3:=DZ hown (aj (Below.refl _ V2) _) hg3
    have hx3:=aJ hb3 hx2
    obtain⟨hc3,hf3,hr3,hl3⟩:=aB hx3)
  obtain⟨q1,q2,q3⟩:=Nu (o:=5) hown3 hb3 hx2 (.slice s3.a d.keys.length s3.cap)
  rw[akA]at q2
  exact⟨s3,rfl,⟨q1,q2,q3⟩⟩
 rintro s2 V3 ⟨ho3,hx3,xn⟩
 have hB3:Below w.heap.size w V3:=((But.of_below (S:=fun _=>False) hB2).past xn (fun j hj=>by omega)).below (Nat.le_refl _) (fun _ h=>h.elim)
 have hg2:∀g,s2.blk=some g→V2.heap.size≤g∧g<V3.heap.size:=fun g hg=>ho3.base hg
 have hs3:V2.heap.size≤V3.heap.size:=xn.size
 have hz3:aS V3 (w.heap.size+1) 0 17=true:=by rw[sS (xn.block _ (by omega) (by omega))];exact hz2
 have Xi:=Xh.but xn (fun g hg=>by have:=hg0 g hg;omega)
 have Xj:=ho2.but xn (fun g hg=>by have:=hg1 g hg;omega)
 clear hc hf hr hl hx2 hz2 Xh ho1 ho2
 generalize hr3:({r2 with keys:=s2}:aN)=r3 at *
 have HR3:=Lib.hid (show r3.parts=s0∧r3.aliases=s1∧r3.keys=s2∧r3.targets=r.targets∧r3.bD=r.bD∧r3.history=r.history by subst hr3 hr2 hr1;exact⟨rfl,rfl,rfl,rfl,rfl,rfl⟩)
 clear hr3 hr2 hr1 hk1
 have NC:=Lib.hid hg0
 have ND:=Lib.hid hg1
 have HG2:=Lib.hid hg2
 have HO1:=Lib.hid Xi
 have HO2:=Lib.hid Xj
 have HB3:=Lib.hid hB3
 have Xk:=Lib.hid hx3
 have HZ3:=Lib.hid hz3
 clear hg0 hg1 hg2 Xi Xj hB3 hx3 hz3 Ii D5 xn hB0 hB1 hB2
 have hI:Ny W0 w V3 67 s2 rK d.keys 0 rK V3:=⟨But.refl _ _,⟨V2.heap.size,by omega,ho3,fun g hg=>(HG2.out g hg).2⟩,LK.out,fun j _ _ h=>absurd h (Nat.not_lt_zero _),fun j _ _ _=>rfl⟩
 clear ho3
 go_wp2_with fail
 go_loopw [3] (fun iv wr=>∃(k:Nat) (R:List (Array Value)),k≤d.keys.length∧iv=.int .i64 k∧Ny W0 w V3 67 s2 rK d.keys k R wr) (fun iv _=>d.keys.length-(intOf iv).toNat)
 case atStart=>exact⟨0,rK,Nat.zero_le _,rfl,hI⟩
 case round=>
  clear hI
  obtain⟨w1,rfl⟩:∃w1,w1=wr:=⟨_,rfl⟩
  obtain⟨k,R,hk,rfl,hI⟩:=hrel
  obtain⟨b2,hb2,Ij,aqH⟩:=hI.own
  have oV:V3.heap.size≤w1.heap.size:=hI.but.size
  have aqI:=HB3.out.size
  have hxr:w1.heap[w.heap.size]?=some (.cells (ae r3 d) 47):=(hI.but.block _ (Array.getElem?_eq_some_iff.1 Xk.out).1 (fun h=>by have:=HG2.out _ h.symm;omega)).trans Xk.out
  have hBr:Below w.heap.size w w1:=((But.of_below (S:=fun _=>False) HB3.out).past hI.but (fun j hj=>by have:=HG2.out _ hj.symm;omega)).below (Nat.le_refl _) (fun _ h=>h.elim)
  obtain⟨hc,hf,hr,hl⟩:=aB hxr
  have h5:=(hc 5).trans (Ce r3 d)
  rw[HR3.out.2.2.1]at h5
  by_cases hlt:k<d.keys.length
  ·clear hc hf hr
   have hkR:k<R.length:=by rw[hI.len];exact hlt
   have Xl:k<rK.length:=by rw[LK.out];exact hlt
   obtain⟨g2,ha2,hbk2,Xm,hrow2,hcp2⟩:=Ij.at_ k hkR
   have hRk:=hI.rest k hkR Xl (Nat.le_refl _)
   obtain⟨kk,t,hkk,hrt,hst⟩:=QK.out k Xl
   rw[List.getElem?_eq_getElem hlt]at hkk
   cases hkk
   have NF:=hRk.trans hrt
   rw[NF]at hrow2
   obtain⟨rk,lk,sk,qk⟩:=aX.src hst.1 akx
   rw[ha2]at h5
   have HA2:=Lib.hid ha2
   clear ha2
   have hc1:=gX hrow2 1 (by omega)
   rw[Cc]at hc1
   have hf1:=xF hcp2 (k*5+1)
   have nk:d.keys[k].keys.length≤4294967000:=hst.1.1
   have HI:=Lib.hid hI
   have MJ:=Lib.hid hbk2
   have HRT:=Lib.hid NF
   have Xn:=Lib.hid Ij
   have Ik:=Lib.hid lk
   have SKK:=Lib.hid sk
   have QKK:=Lib.hid qk
   have zk:=Lib.hid hBr
   have hgw:w.heap.size+2≤g2∧g2<V3.heap.size:=by have:=HG2.out _ hbk2;omega
   have aqJ:g2≠w.heap.size:=by omega
   clear hI hbk2 hRk hrt NF Ij lk sk qk hBr hcp2 hrow2 hst
   go_wp2_with fail
   apply qy (M:=fun(s:Sl) V=>Go.WW.Own V w1.heap.size 69 3 s rk∧But (fun j=>some j=s2.blk) w1 V∧Go.WW.Own V b2 67 5 s2 (R.set k (bz s d.keys[k])))
   case h1=>
    have HO:=Lib.hid (Own.empty w1.drew 69 3)
    have HS:=Lib.hid ((SKK.out.later hW).later (ag zk.out (aj (Below.refl _ w1).drew (.cells #[] 69))))
    refine Xg (nK (fun _=>False) w1) fQ (by kernel_rfl) (by kernel_rfl) (by kernel_rfl) ⟨⟨World.drew w1,(But.refl _ _).drew⟩,rfl⟩ ?_
    repeat (first|(refine ax (by rfl) ?_)|(refine aP (by rfl) (by rfl) (fun K hK=>?_);go_big_quiet_op;refine hK _ ?_;clear hK K))
    refine aU (by rfl) (by rfl) (fun K hK=>?_)
    go_wp2_with fail
    refine hK _ _ (dw (But.of_below (aj (Below.refl _ w1).drew _))) ?_
    clear hK K
    repeat (first|(refine ax (by rfl) ?_)|(refine aP (by rfl) (by rfl) (fun K hK=>?_);go_big_quiet_op;refine hK _ ?_;clear hK K))
    refine aU (by rfl) (by rfl) (fun K hK=>?_)
    refine zi (.tmp 32) (.tmp 38) _ rfl Uc (n:=0) (s:=⟨some ⟨w1.heap.size,0,none⟩,0⟩) rfl rfl HO.out rfl Ik.out.symm HS.out (by rw[Ik.out];simp;omega) (by simp) ?_
    intro s3 w3 hown3 hg3 gJ
    have hb3:Below w1.heap.size w1 w3:=(aj (Below.refl _ w1).drew (.cells #[] 69)).grown hg3 (by simp) (fun k' e'=>by cases e';exact Nat.le_refl _)
    go_wp2_with fail
    refine hK _ _ (dw (But.of_below hb3)) ?_
    clear hK K
    repeat (first|(refine ax (by rfl) ?_)|(refine aP (by rfl) (by rfl) (fun K hK=>?_);go_big_quiet_op;refine hK _ ?_;clear hK K))
    refine bV ?_
    unfold vJ
    simp only[List.getLast?_cons_cons,List.getLast?_singleton]
    have hc3:=(hb3.cell (p:=⟨g2,k*5+1,none⟩) Xm).trans hc1
    have hf3:=(hb3.frozen (p:=⟨g2,k*5+1,none⟩) Xm).trans hf1
    have hown4:=Xn.out.kept (w':=w3) (fun g hg=>hb3.block g (Xn.out.base hg).2)
    have hown5:=hown4.setCell HA2.out k 1 hkR (by omega) (.slice s3.a d.keys[k].keys.length s3.cap)
    rw[HRT.out,akB]at hown5
    have hown6:Go.WW.Own (w3.setCell ⟨g2,k*5+1,none⟩ (.slice s3.a d.keys[k].keys.length s3.cap)) w1.heap.size 69 3 s3 rk:=by
     rw[List.nil_append]at hown3
     exact hown3.kept fun g hg=>Below.heap_setCell _ _ _ _ (show g≠g2 by have:=(hown3.base hg).1;simp at this;omega)
    have D6:But (fun j=>some j=s2.blk) w1 (w3.setCell ⟨g2,k*5+1,none⟩ (.slice s3.a d.keys[k].keys.length s3.cap)):=Bc (But.of_below hb3) (.inl MJ.out.symm)
    clear hown3 hown4
    have H5:=Lib.hid hown5
    have H6:=Lib.hid hown6
    have H7:=Lib.hid D6
    clear hown5 hown6 D6
    go_wp2_with fail
    exact⟨s3,rfl,⟨H6.out,H7.out,H5.out⟩⟩
   rintro s3 V ⟨NG,vK,NH⟩
   have MK:w1.heap.size≤V.heap.size:=vK.size
   have Xo:V.heap[w.heap.size]?=some (.cells (ae r3 d) 47):=(vK.block _ hl (fun h=>by have:=HG2.out _ h.symm;omega)).trans hxr
   have Ha:∀g,s3.blk=some g→w1.heap.size≤g∧g<V.heap.size:=fun g hg=>NG.base hg
   obtain⟨g2',Xp,-,akM,NI,akN⟩:=NH.at_ k (by rw[List.length_set];exact hkR)
   rw[HA2.out]at Xp
   cases Xp
   rw[List.getElem_set_self]at NI
   have Xq:=gX NI 1 (by omega)
   rw[Cc]at Xq
   clear hc1 hf1 h5 NI akN
   obtain⟨hc,-,-,zl⟩:=aB Xo
   have Xr:=(hc 5).trans (Ce r3 d)
   rw[HR3.out.2.2.1,HA2.out]at Xr
   clear hc
   have hJ:Nz W0 w V w1.heap.size 69 s2 s3 rk d.keys[k].keys 0 rk V:=⟨But.refl _ _,NG,Ik.out,fun j _ _ h=>absurd h (Nat.not_lt_zero _),fun j _ _ _=>rfl⟩
   have D7:=Lib.hid vK
   have HOV:=Lib.hid NH
   have uy:=Lib.hid Ha
   clear vK NH Ha NG hxr Xo
   iterate 3 go_step
   go_wp2_with fail
   go_loopw [4] (fun jv wr=>∃(q:Nat) (R3:List (Array Value)),q≤d.keys[k].keys.length∧jv=.int .i64 q∧Nz W0 w V w1.heap.size 69 s2 s3 rk d.keys[k].keys q R3 wr) (fun jv _=>d.keys[k].keys.length-(intOf jv).toNat)
   case atStart=>exact⟨0,rk,Nat.zero_le _,rfl,hJ⟩
   case round=>
    clear hJ
    obtain⟨q,R3,hq,rfl,hJ⟩:=hrel
    have hsj:V.heap.size≤wr.heap.size:=hJ.but.size
    have h5:=(hJ.but.cell (o:=5) zl (fun h=>by have:=uy.out _ h.symm;omega)).trans Xr
    have hc1:=(hJ.but.cell (o:=k*5+1) akM (fun h=>by have:=uy.out _ h.symm;omega)).trans Xq
    have hlj:w.heap.size<wr.heap.size:=by omega
    have hgj:g2<wr.heap.size:=by omega
    have NJ:=hJ.own
    by_cases NK:q<d.keys[k].keys.length
    ·have NM:q<R3.length:=by rw[hJ.len];exact NK
     have Xt:q<rk.length:=by rw[Ik.out];exact NK
     obtain⟨g3,uq,Il,Xu,hrow3,Xv⟩:=NJ.at_ q NM
     have Xw:=hJ.rest q NM Xt (Nat.le_refl _)
     obtain⟨kk,t3,hkk,Xx,hst3⟩:=QKK.out q Xt
     rw[List.getElem?_eq_getElem NK]at hkk
     cases hkk
     have NP:=Xw.trans Xx
     rw[NP]at hrow3
     obtain⟨rb,lb,sb,qb⟩:=dY.src hst3 Gw
     have hc2:=gX hrow3 2 (by omega)
     rw[Fz]at hc2
     have hf2:=xF Xv (q*3+2)
     have nb:d.keys[k].keys[q].bytes.length≤4294967000:=hst3.1
     have aqK:w1.heap.size≤g3:=(uy.out _ Il).1
     have aqL:g3<V.heap.size:=(uy.out _ Il).2
     have HJ:=Lib.hid hJ
     have akP:=Lib.hid Il
     have akQ:=Lib.hid NP
     have Xy:=Lib.hid NJ
     have LB:=Lib.hid lb
     have SB:=Lib.hid sb
     have QB:=Lib.hid qb
     rw[uq]at hc1
     have HA3:=Lib.hid uq
     clear uq
     have HBj:=Lib.hid (show Below w.heap.size w wr from(((But.of_below (S:=fun _=>False) zk.out).past D7.out (fun j hj=>by have:=HG2.out _ hj.symm;omega)).past hJ.but (fun j hj=>by have:=uy.out _ hj.symm;omega)).below (Nat.le_refl _) (fun _ h=>h.elim))
     clear hJ Il Xw Xx NP NJ lb sb qb Xv hrow3 hst3
     go_wp2_with fail
     apply qy (M:=fun(s:Sl) V'=>Go.WW.Own V' wr.heap.size 5 1 s rb∧But (fun j=>some j=s3.blk) wr V'∧Go.WW.Own V' w1.heap.size 69 3 s3 (R3.set q (bZ s d.keys[k].keys[q])))
     case h1=>
      have HO:=Lib.hid (Own.empty wr.drew 5 1)
      have HS:=Lib.hid ((SB.out.later hW).later (ag HBj.out (aj (Below.refl _ wr).drew (.cells #[] 5))))
      refine Xg (nK (fun _=>False) wr) fQ (by kernel_rfl) (by kernel_rfl) (by kernel_rfl) ⟨⟨World.drew wr,(But.refl _ _).drew⟩,rfl⟩ ?_
      repeat (first|(refine ax (by rfl) ?_)|(refine aP (by rfl) (by rfl) (fun K hK=>?_);go_big_quiet_op;refine hK _ ?_;clear hK K))
      refine aU (by rfl) (by rfl) (fun K hK=>?_)
      go_wp2_with fail
      refine hK _ _ (dw (But.of_below (aj (Below.refl _ wr).drew _))) ?_
      clear hK K
      repeat (first|(refine ax (by rfl) ?_)|(refine aP (by rfl) (by rfl) (fun K hK=>?_);go_big_quiet_op;refine hK _ ?_;clear hK K))
      refine aU (by rfl) (by rfl) (fun K hK=>?_)
      refine zi (.tmp 60) (.tmp 70) _ rfl eF (n:=0) (s:=⟨some ⟨wr.heap.size,0,none⟩,0⟩) rfl rfl HO.out rfl LB.out.symm HS.out (by rw[LB.out];simp;omega) (by simp) ?_
      intro s4 w3 hown3 hg3 gJ
      have hb3:Below wr.heap.size wr w3:=(aj (Below.refl _ wr).drew (.cells #[] 5)).grown hg3 (by simp) (fun k' e'=>by cases e';exact Nat.le_refl _)
      go_wp2_with fail
      refine hK _ _ (dw (But.of_below hb3)) ?_
      clear hK K
      repeat (first|(refine ax (by rfl) ?_)|(refine aP (by rfl) (by rfl) (fun K hK=>?_);go_big_quiet_op;refine hK _ ?_;clear hK K))
      refine bV ?_
      unfold vJ
      simp only[List.getLast?_cons_cons,List.getLast?_singleton]
      have hc3:=(hb3.cell (p:=⟨g3,q*3+2,none⟩) Xu).trans hc2
      have hf3:=(hb3.frozen (p:=⟨g3,q*3+2,none⟩) Xu).trans hf2
      have hown4:=Xy.out.kept (w':=w3) (fun g hg=>hb3.block g (Xy.out.base hg).2)
      have hown5:=hown4.setCell HA3.out q 2 NM (by omega) (.slice s4.a d.keys[k].keys[q].bytes.length s4.cap)
      rw[akQ.out,akC]at hown5
      have hown6:Go.WW.Own (w3.setCell ⟨g3,q*3+2,none⟩ (.slice s4.a d.keys[k].keys[q].bytes.length s4.cap)) wr.heap.size 5 1 s4 rb:=by
       rw[List.nil_append]at hown3
       exact hown3.kept fun g hg=>Below.heap_setCell _ _ _ _ (show g≠g3 by have:=(hown3.base hg).1;simp at this;omega)
      have D6:But (fun j=>some j=s3.blk) wr (w3.setCell ⟨g3,q*3+2,none⟩ (.slice s4.a d.keys[k].keys[q].bytes.length s4.cap)):=Bc (But.of_below hb3) (.inl akP.out.symm)
      clear hown3 hown4
      have H5:=Lib.hid hown5
      have H6:=Lib.hid hown6
      have H7:=Lib.hid D6
      clear hown5 hown6 D6
      go_wp2_with fail
      exact⟨s4,rfl,⟨H6.out,H7.out,H5.out⟩⟩
     rintro s4 V' ⟨D8,Io,Xz⟩
     have akT:wr.heap.size≤V'.heap.size:=Io.size
     have HJ':=Lib.hid (show Nz W0 w V w1.heap.size 69 s2 s3 rk d.keys[k].keys (q+1) (R3.set q (bZ s4 d.keys[k].keys[q])) V' from by
      refine⟨HJ.out.but.trans Io,Xz,by rw[List.length_set];exact HJ.out.len,fun j hj hj' hjq=>?_,fun j hj hj' hjq=>?_⟩
      ·by_cases e:j=q
       ·subst e
        refine⟨s4,by rw[List.getElem_set_self],fun y hy=>?_⟩
        have hoy:=D8.but hy (fun g hg=>by
         have h1:=(D8.base hg).1
         rintro((h|h|h)|h)
         ·omega
         ·omega
         ·have:=HG2.out _ h.symm;omega
         ·have:=uy.out _ h.symm;omega)
        refine⟨dY.eG hoy LB.out (by unfold lim;omega) QB.out,mF.eG hoy LB.out (fun g hg=>⟨by have:=(D8.base hg).1;omega,(D8.base hg).2⟩)⟩
       ·obtain⟨s,h1,h2⟩:=HJ.out.done j (by rw[List.length_set]at hj;exact hj) hj' (by omega)
        refine⟨s,by rw[List.getElem_set_ne (Ne.symm e)];exact h1,fun y hy=>(h2 y ((Io.mono fun i hi=>.inr hi).trans hy)).mono fun b hb=>⟨hb.1,Nat.lt_of_lt_of_le hb.2 akT⟩⟩
      ·rw[List.getElem_set_ne (show q≠j by omega)]
       exact HJ.out.rest j (by rw[List.length_set]at hj;exact hj) hj' (by omega))
     clear D8 Io Xz
     iterate 3 go_step
     go_wp2_with fail
     go_roundw
     case rel=>exact⟨q+1,_,by omega,by go_num,HJ'.out⟩
     case measure=>simp[intOf];omega
    ·obtain rfl:q=d.keys[k].keys.length:=by omega
     have HI':=Lib.hid (show Ny W0 w V3 67 s2 rK d.keys (k+1) (R.set k (bz s3 d.keys[k])) wr from by
      have hbw:But (Ih W0 w s2) w1 wr:=(D7.out.mono (fun j hj=>.inr (.inr hj))).past hJ.but (fun j hj=>by have:=uy.out _ hj.symm;omega)
      refine⟨(HI.out.but.trans D7.out).past hJ.but (fun j hj=>by have:=uy.out _ hj.symm;omega),⟨b2,hb2,HOV.out.but hJ.but (fun g hg h=>by have:=uy.out _ h.symm;have:=HG2.out _ hg;omega),fun g hg=>(HG2.out g hg).2⟩,by rw[List.length_set];exact HI.out.len,fun j hj hj' hjk=>?_,fun j hj hj' hjk=>?_⟩
      ·by_cases e:j=k
       ·subst e
        refine⟨s3,by rw[List.getElem_set_self],fun y hy=>?_⟩
        have hoy:=hJ.own.but hy (fun g hg=>by
         have h1:=(uy.out _ hg).1
         rintro(h|h|h)
         ·omega
         ·omega
         ·have:=HG2.out _ h.symm;omega)
        refine aX.eG hoy hJ.len nk fun i hi=>?_
        have hi':i<d.keys[j].keys.length:=by rw[←hJ.len];exact hi
        obtain⟨s,h1,h2⟩:=hJ.done i hi hi' hi'
        exact⟨_,s,List.getElem?_eq_getElem hi',h1,h2 y (hy.mono fun i hi=>.inl hi)⟩
       ·obtain⟨s,h1,h2⟩:=HI.out.done j (by rw[List.length_set]at hj;exact hj) hj' (by omega)
        refine⟨s,by rw[List.getElem_set_ne (Ne.symm e)];exact h1,fun y hy=>(h2 y (hbw.trans hy)).mono fun b hb=>⟨hb.1,Nat.lt_of_lt_of_le hb.2 hbw.size⟩⟩
      ·rw[List.getElem_set_ne (show k≠j by omega)]
       exact HI.out.rest j (by rw[List.length_set]at hj;exact hj) hj' (by omega))
     clear hJ
     go_wp2_with fail
     go_roundw
     case rel=>exact⟨k+1,_,by omega,by go_num,HI'.out⟩
     case measure=>simp[intOf];omega
  ·obtain rfl:k=d.keys.length:=by omega
   have hzr:aS w1 (w.heap.size+1) 0 17=true:=by
    have hlt1:w.heap.size+1<V3.heap.size:=by
     have h:=HZ3.out
     unfold aS at h
     split at h
     ·rename_i hb;exact(Array.getElem?_eq_some_iff.1 hb).1
     ·cases h
    rw[sS (hI.but.block _ hlt1 (fun h=>by have:=HG2.out _ h.symm;omega))];exact HZ3.out
   have hrw:row? w1 w.heap.size 0 17=some (ae r3 d):=by rw[bQ hxr];exact df (by simp[go_sem])
   have HI:=Lib.hid hI
   clear hI hc hf hr
   go_wp2_with fail
   have hrow:=iO (w:=w1) (Ae r3 d) hzr
   refine bodyPost_ret (KP (by rfl) Tryz.underlying47 rfl (by kernel_rfl) rfl hrow) rfl ⟨r3,rfl,Go.WW.Below.putRow hBr (by omega),fun y hy=>?_⟩
   have hps:(putRow w1 (w.heap.size+1) 0 (ae r3 d)).heap.size=w1.heap.size:=by rw[kN]
   have hy2:But (fun j=>(W0.heap.size≤j∧j<w.heap.size)∨j=w.heap.size+1) w1 y:=((But.refl _ w1).put (.inr rfl)).trans (hy.mono fun k hk=>.inl hk)
   have hy1:But (Ih W0 w s2) w1 y:=hy2.mono fun k hk=>hk.imp id fun h=>.inl (.inr h)
   have XA:Below W0.heap.size W0 y:=(hW.trans (hBr.mono hW0)).trans (hy2.below (n:=W0.heap.size) (by omega) (fun k hk=>by omega))
   have NQ:∀g,w.heap.size+2≤g→¬((W0.heap.size≤g∧g<w.heap.size)∨g=w.heap.size+1):=fun g hg h=>by omega
   have hE:=HE.out.later XA
   have dh:=HR3.out
   have XB:=((HO1.out.but HI.out.but (fun g hg h=>by have:=NC.out _ hg;have:=HG2.out _ h.symm;omega)).but hy2 (fun g hg=>NQ g (NC.out _ hg).1))
   have XC:=((HO2.out.but HI.out.but (fun g hg h=>by have:=ND.out _ hg;have:=HG2.out _ h.symm;omega)).but hy2 (fun g hg=>NQ g (ND.out _ hg).1))
   have NR:=Ij.but hy2 (fun g hg=>NQ g (by have:=HG2.out _ hg;omega))
   have hS3:aX y 5 s2.a d.keys.length (fun i cs=>∃p s,d.keys[i]?=some p∧cs=bz s p∧Xb (span w.heap.size (putRow w1 (w.heap.size+1) 0 (ae r3 d)).heap.size) y s p):=
    aX.eG NR HI.out.len n2 fun i hi=>by
     have hi':i<d.keys.length:=by rw[←HI.out.len];exact hi
     obtain⟨s,h1,h2⟩:=HI.out.done i hi hi' hi'
     have h3:=mO.get hE.keys i hi'
     obtain⟨_,_,_,_,_,h4⟩:=h3
     exact⟨_,s,List.getElem?_eq_getElem hi',h1,by rw[hps];exact h2 y hy1,h4.2⟩
   have hfr:∀g,w.heap.size+2≤g→g<V3.heap.size→span w.heap.size (putRow w1 (w.heap.size+1) 0 (ae r3 d)).heap.size g:=fun g h1 h2=>⟨by omega,by rw[hps];omega⟩
   refine⟨⟨?_,?_,?_,?_,?_,?_,hE.aO,hE.attrs⟩,?_,?_,?_⟩
   ·rw[dh.1]
    exact⟨dY.eG XB LP.out (by unfold lim;omega) QP.out,hE.name.2⟩
   ·rw[dh.2.1]
    exact aX.eG XC LA.out (by unfold lim;omega) (fun i hi=>by
     obtain⟨p,s,h1,h2,h3⟩:=QA.out i hi
     exact⟨p,s,h1,h2,h3.later XA⟩)
   ·rw[dh.2.2.1];exact Bf.at_ ⟨hS3,mF.eG NR HI.out.len (fun g hg=>by have:=HG2.out _ hg;exact hfr g (by omega) this.2)⟩
   ·rw[dh.2.2.2.1];exact hE.targets
   ·rw[dh.2.2.2.2.1];exact hE.bD
   ·rw[dh.2.2.2.2.2];exact hE.history
   ·rw[dh.1];exact mF.eG XB LP.out (fun g hg=>by have:=NC.out _ hg;exact hfr g this.1 (by omega))
   ·rw[dh.2.1];exact mF.eG XC LA.out (fun g hg=>by have:=ND.out _ hg;exact hfr g this.1 (by omega))
   ·rw[dh.2.2.1];exact⟨hS3,mF.eG NR HI.out.len (fun g hg=>by have:=HG2.out _ hg;exact hfr g (by omega) this.2)⟩
end Go.Proofs.YtfieenjdcpjmgaaGreatDoor
namespace Go.WW
open Go.RowKit
structure fU where
 k:UInt8
 d:Entry
 q:az
 a:Int
 b:Int
 c:Int
 p:ai
structure kD where
 r:aN
 t:Sl
def ng(x:fU):Array Value:=#[.int .i64 x.a,.int .i64 x.b,.int .i64 x.c]
theorem akX(x:fU):(ng x).size=3:=by simp[ng]
theorem akY(x:fU):dJ (ng x)=true:=by simp[dJ,ng,Value.oneCell']
theorem akZ(x:fU)(h:0<(ng x).size):(ng x)[0]'h=.int .i64 x.a:=by simp[ng]
theorem ak0(x:fU)(h:1<(ng x).size):(ng x)[1]'h=.int .i64 x.b:=by simp[ng]
theorem ak1(x:fU)(h:2<(ng x).size):(ng x)[2]'h=.int .i64 x.c:=by simp[ng]
attribute [go_sem] akZ ak0 ak1 akX akY
def gW(z:kD)(x:fU):Array Value:=#[.int .u8 x.k.toNat]++(ae z.r x.d++(ah z.t x.q++(#[.int .i64 x.a,.int .i64 x.b,.int .i64 x.c]++aC x.p)))
theorem ak2(z:kD)(x:fU):(gW z x).size=33:=by kernel_rfl
theorem ak3(z:kD)(x:fU):dJ (gW z x)=true:=by kernel_rfl
theorem XD(z:kD)(x:fU):(gW z x)[0]?=some (.int .u8 x.k.toNat):=by kernel_rfl
theorem NS(z:kD)(x:fU):(gW z x)[23]?=some (.string x.p.name):=by kernel_rfl
theorem XE(z:kD)(x:fU):fO (gW z x) 1 17=some (ae z.r x.d):=by kernel_rfl
theorem XF(z:kD)(x:fU):fO (gW z x) 18 2=some (ah z.t x.q):=by kernel_rfl
theorem ak4(z:kD)(x:fU):fO (gW z x) 20 3=some (ng x):=by kernel_rfl
theorem ak5(z:kD)(x:fU):(gW z x)[20]?=some (.int .i64 x.a):=by kernel_rfl
theorem ak6(z:kD)(x:fU):(gW z x)[21]?=some (.int .i64 x.b):=by kernel_rfl
theorem ak7(z:kD)(x:fU):(gW z x)[22]?=some (.int .i64 x.c):=by kernel_rfl
theorem ak8(z:kD)(x:fU):fO (gW z x) 23 10=some (aC x.p):=by kernel_rfl
attribute [irreducible] gW
theorem ak9(z:kD)(x:fU)(h:0<(gW z x).size):(gW z x)[0]'h=.int .u8 x.k.toNat:=by have e:=XD z x;rw[Array.getElem?_eq_getElem h]at e;exact Option.some.inj e
theorem ala(z:kD)(x:fU)(h:23<(gW z x).size):(gW z x)[23]'h=.string x.p.name:=by have e:=NS z x;rw[Array.getElem?_eq_getElem h]at e;exact Option.some.inj e
attribute [go_sem] ak9 ala ak2 ak3 XD ak5 ak6 ak7 NS XE XF ak4 ak8
structure xH(w:World)(z:kD)(x:fU):Prop where
 Bd:bK w z.r x.d
 zn:bn w z.t x.q
 Ip:x.p.name.size≤lim
theorem xH.later{w w':World}{z:kD}{x:fU}(h:xH w z x)(hb:Below w.heap.size w w'):xH w' z x:=⟨h.Bd.later hb,h.zn.later hb,h.Ip⟩
def vM(w:World)(a:Option Addr)(l:List fU):Prop:=aX w 33 a l.length fun i cs=>∃x z,l[i]?=some x∧cs=gW z x∧xH w z x
theorem vM.later{w w':World}(h:Below w.heap.size w w'){a:Option Addr}{l:List fU}(x:vM w a l):vM w' a l:=aX.later h (fun _ _ ⟨d,r,y1,y2,y3⟩=>⟨d,r,y1,y2,y3.later h⟩) x
theorem iK.grow{S S':Nat→Prop}{es ps:Sl}{D:Db}{X:List EE}{w:World}(h:iK S es ps D X w)(hS:∀k,S' k→k<w.heap.size→S k):iK S' es ps D X w:=⟨h.dG.grow hS,h.dL.grow hS,h.cap⟩
theorem XG{w:World}{b o:Nat}{z:kD}{x:fU}(h:row? w b o 33=some (gW z x)):row? w b (o+1) 17=some (ae z.r x.d):=(CZ h (by omega)).trans (XE z x)
theorem XH{w:World}{b o:Nat}{z:kD}{x:fU}(h:row? w b o 33=some (gW z x)):row? w b (o+18) 2=some (ah z.t x.q):=(CZ h (by omega)).trans (XF z x)
theorem XI{w:World}{b o:Nat}{z:kD}{x:fU}(h:row? w b o 33=some (gW z x)):w.cell? ⟨b,o+23,none⟩=some (.string x.p.name):=(gX h 23 (by omega)).trans (NS z x)
theorem aX.XJ{w:World}{a:Option Addr}{l:List fU}(x:vM w a l)(i:Nat)(h:i<l.length):∃b o z,a=some ⟨b,o,none⟩∧row? w b (o+i*33) 33=some (gW z l[i])∧xH w z l[i]:=by
 obtain⟨b,o,v,h1,h2,d,r,h3,rfl,h4⟩:=x.2 i h
 rw[List.getElem?_eq_getElem h]at h3;cases h3
 exact⟨b,o,r,h1,h2,h4⟩
structure Bh(D:Db)(X:List EE)(D':Db)(X':List EE):Prop where
 aG:D'.aG=D.aG
 s0:D.ay≤D'.ay
 s1:D'.ay≤D.ay+1
 len:X'.length≤X.length+1
 dL:D'.au.length≤D.au.length+1
 sort:Sorted dD (fun q:ai=>q.name) D.au→Sorted dD (fun q:ai=>q.name) D'.au
theorem alb{D D':Db}{X X':List EE}{r:aN}{d:Entry}{no:Int}(h:kS D X r d no D' X'):Bh D X D' X':=by
 obtain⟨h1,h2,h3,h4,h5,-⟩:=ajh h
 exact⟨h2,h3,h4,h5,by rw[h1];omega,by rw[h1];exact id⟩
theorem alc{D D':Db}{X X':List EE}{q:az}{no:Int}(h:rU D X q no D' X'):Bh D X D' X':=by
 obtain⟨h1,h2,h3,h4,h5⟩:=akp h
 exact⟨h2,h3,h4,by omega,by rw[h1];omega,by rw[h1];exact id⟩
theorem ald{D D':Db}{X X':List EE}{q:az}{f a b no:Int}(h:uo D X q f a b no D' X'):Bh D X D' X':=by
 obtain⟨h1,h2,h3,h4,h5⟩:=akq h
 exact⟨h2,h3,h4,by omega,by rw[h1];omega,by rw[h1];exact id⟩
theorem ale{D D':Db}(X:List EE){q:ai}{no:Int}(hn:(D.au.map (·.name)).Nodup)(h:mZ D q no D'):Bh D X D' X:=by
 obtain⟨h1,h2,h3,h4,h5⟩:=Wv h
 exact⟨h2,h3,h4,by omega,h5,ajn h hn⟩
theorem alf{D D':Db}(X:List EE){k:ByteArray}{no:Int}(h:qw D k no D'):Bh D X D' X:=by
 obtain⟨h1,h2,h3,h4,h5,h6⟩:=akr h
 exact⟨h2,h3,h4,by omega,by omega,fun hs=>hs.sublist h6⟩
end Go.WW
namespace Go.Proofs.YtfieenjdcpjmgaaGreatDoor
open Go.RowKit Go.WW
theorem lN(n:Int)(w:World):Calls Tryz.prog 9 #[.int .i64 n] w fun e w'=>e=.returned (.int .i64 n)∧w=w':=by
 go_enter Tryz.func9,Tryz.ntmps9
 go_wp2_with fail
 go_ret
 exact⟨rfl,rfl⟩
theorem alg(w:World)(b o:Nat):(jU 52 (.pointer (some ⟨b,o,none⟩))).run Tryz.prog w=qJ Tryz.prog 52 w b o (row? w b o 33):=uM Tryz.underlying52 rfl (by kernel_rfl) w b o
theorem alh(ρ:Operand→Value)(dst:Option Tmp)(x:Operand)(ty:TypeId)(pos:String)(after:Array Edge)(guard:Option (Nat×Bool)):execOp ρ {dst,op:=.load 52 x,type:=ty,pos,after,guard}=jU 52 (ρ x):=rfl
attribute [go_sem] alg
attribute [go_sem ↓] alh
theorem ali(w:World)(b o:Nat):(jU 48 (.pointer (some ⟨b,o,none⟩))).run Tryz.prog w=qJ Tryz.prog 48 w b o (row? w b o 3):=uM Tryz.underlying48 rfl (by kernel_rfl) w b o
theorem alj(ρ:Operand→Value)(dst:Option Tmp)(x:Operand)(ty:TypeId)(pos:String)(after:Array Edge)(guard:Option (Nat×Bool)):execOp ρ {dst,op:=.load 48 x,type:=ty,pos,after,guard}=jU 48 (ρ x):=rfl
attribute [go_sem] ali
attribute [go_sem ↓] alj
theorem alk(w:World)(b o:Nat)(cs:Array Value)(hn:cs.size=3)(h1:dJ cs=true):(kU 48 (.pointer (some ⟨b,o,none⟩)) (.agg cs)).run Tryz.prog w=sQ Tryz.prog 48 w b o cs (aS w b o 3):=wK (by kernel_rfl) w b o cs hn h1
theorem alm(ρ:Operand→Value)(dst:Option Tmp)(x y:Operand)(ty:TypeId)(pos:String)(after:Array Edge)(guard:Option (Nat×Bool)):execOp ρ {dst,op:=.store 48 x y,type:=ty,pos,after,guard}=kU 48 (ρ x) (ρ y):=rfl
attribute [go_sem] alk
attribute [go_sem ↓] alm
structure iR(S:Nat→Prop)(b n e p:Nat)(re:ByteArray)(es ps:Sl)(D:Db)(X:List EE)(N:Nat)(w:World):Prop where
 ex:∃NL E P,jM S b n e p re D.ay NL E P w∧fA D X NL E P
 ref:iK S es ps D X w
 aG:D.aG=re
 lt:∀k,S k→k<w.heap.size
 sort:Sorted dD (fun q:ai=>q.name) D.au
 d0:0≤D.ay
 d1:D.ay≤(N:Int)
 n1:X.length≤N
 n2:D.au.length≤N
theorem bU.same{w w':World}{b n e p:Nat}{re:ByteArray}{s:Int}{N:List (ByteArray×Value)}{E:List EE}{P:List ai}(h:bU w b n e p re s N E P)(hs:∀k,aZ b n e p k→w'.heap[k]?=w.heap[k]?):bU w' b n e p re s N E P:=
 ⟨(hs b (.inl rfl)).trans h.box,h.nm.at (hs n (.inr (.inl rfl))),h.em.at (hs e (.inr (.inr (.inl rfl)))),h.pm.at (hs p (.inr (.inr (.inr rfl)))),h.ne⟩
theorem jM.off{S T:Nat→Prop}{b n e p:Nat}{re:ByteArray}{s:Int}{NL:List (ByteArray×ByteArray)}{E:List EE}{P:List ai}{w w':World}(h:jM S b n e p re s NL E P w)(hb:But T w w')(hT:∀k,T k→S k)(hn:∀k,T k→¬aZ b n e p k):jM S b n e p re s NL E P w':=
 ⟨h.db.same fun k hk=>hb.block k (h.lt k hk) fun ht=>hn k ht hk,fun x hx=>(h.keep x hx).on (hb.mono hT),h.sub⟩
theorem jM.grow{S S':Nat→Prop}{b n e p:Nat}{re:ByteArray}{s:Int}{NL:List (ByteArray×ByteArray)}{E:List EE}{P:List ai}{w:World}(h:jM S b n e p re s NL E P w)(hS:∀k,S' k→k<w.heap.size→S k)(hsub:∀k,S k→S' k):jM S' b n e p re s NL E P w:=
 ⟨h.db,fun x hx=>(h.keep x hx).grow hS,fun k hk=>hsub k (h.sub k hk)⟩
def XK(S:Nat→Prop)(b n e p:Nat)(re:ByteArray)(N:Nat)(w:World)(z:Ending)(w':World):Prop:=
 ∃S' es' ps' D' X',z=.returned (.tuple #[.agg (ak es' ps' D'),.bool true])∧But (aZ b n e p) w w'∧iR S' b n e p re es' ps' D' X' (N+1) w'∧(∀k,S' k→S k∨w.heap.size≤k)∧(∀k,S k→S' k)
theorem aln{S S1:Nat→Prop}{b n e p:Nat}{re:ByteArray}{es es' ps ps':Sl}{D D':Db}{X X':List EE}{N:Nat}{w w3 w9:World}{kZ:List (ByteArray×ByteArray)}{E':List EE}{P':List ai}{z:Ending}(h:iR S b n e p re es ps D X N w)(hz:z=.returned (.tuple #[.agg (ak es' ps' D'),.bool true]))
  (hst:Bh D X D' X') (hP:jM S1 b n e p re (D.ay+(D'.ay-D.ay)) kZ E' P' w3) (hR:fA D' X' kZ E' P') (hF:iK S1 es' ps' D' X' w9) (hS1:∀k,S1 k→S k∨w.heap.size≤k) (alo:∀k,S k→S1 k) (hlt:∀k,S1 k→k<w9.heap.size)
  {T:Nat→Prop} (hb:But T w3 w9) (hT:∀k,T k→S1 k) (hTw:∀k,T k→w.heap.size≤k) (hB:But (aZ b n e p) w w9):XK S b n e p re N w z w9:=by
 obtain⟨NL,E,P,h1,-⟩:=h.ex
 have e1:D.ay+(D'.ay-D.ay)=D'.ay:=by omega
 rw[e1]at hP
 have:=hst.s0;have:=hst.s1;have:=hst.len;have:=hst.dL;have:=h.d0;have:=h.d1;have:=h.n1;have:=h.n2
 exact⟨S1,es',ps',D',X',hz,hB,⟨⟨kZ,E',P',hP.off hb hT fun k hk hd=>by have:=h1.lt k hd;have:=hTw k hk;omega,hR⟩,hF,hst.aG.trans h.aG,hlt,hst.sort h.sort,by omega,by push_cast;omega,by omega,by omega⟩,hS1,alo⟩
end Go.Proofs.YtfieenjdcpjmgaaGreatDoor
