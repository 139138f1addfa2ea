/- A part of the proof. -/
import Derived.Test.YtfieenjdcpjmgaaGreatDoorA21
import Derived.Test.YtfieenjdcpjmgaaGreatDoorA22
import Derived.Test.YtfieenjdcpjmgaaGreatDoorA11
set_option maxRecDepth 100000
set_option maxHeartbeats 4000000
namespace Go.WW
open Go.RowKit
section
variable {P:Program} {ops:Array Oper} {S:World→Prop} {st:Oper→Bool} {Q:Act→World→Prop}
theorem aj8{m:Array (List Nat)}(hok:qG st ops m){Q':Exit→Act→World→Prop}{z:Oper}{N:Nat}(hN:ops.size=N+1)(hz:ops[N]?=some z)(hzg:z.guard=none)(MM:∀i,i<N→(∃e∈z.after,Region.binds .any e=true∧e.on=i)∨∃e∈z.after,Region.binds .any e=true∧∃o',ops[e.on]?=some o'∧∃e'∈o'.after,Region.binds .any e'=true∧e'.on=i)
  (hQ:∀a w,Q a w→z.wp P a w (fun a' w'=>Q' .normal a' w') never) :
  ∀(n:Nat) (L:List Nat) (listed:Array Bool) (a:Act) (w:World),L.length=n→L.Pairwise (· < ·)→listed.size=ops.size→listed.getD N true=false→(∀j,j∈L↔j<N∧listed.getD j true=false)→
   (∀k o,ops[k]?=some o→listed.getD k false=true→∀e∈o.after,Region.binds .any e=true→listed.getD e.on false=true)→
   S w→aH P ops st S Q (L.filterMap (ops[·]?)) a w→wpAny P .any ops Q' (n+1) listed a w:=by
 intro n
 induction n with
 |zero=>
  intro L listed a w hn _ hsz yX hL hdown _ h
  have:L=[]:=List.eq_nil_of_length_eq_zero hn
  subst this
  have hls:∀i,i<N→listed.getD i false=true:=fun i hi=>by
   have h2:listed.getD i true≠false:=fun hf=>by have:=(hL i).2 ⟨hi,hf⟩;cases this
   have hes:i<listed.size:=by omega
   simp[hes]at h2 ⊢;exact h2
  refine⟨fun hr=>?_,fun i hi=>?_⟩
  ·have:N∈Region.ready .any ops listed:=mem_ready.2 ⟨yX,z,hz,fun e he hb=>hls _ (by have:=hok.back N z hz e he hb;exact this)⟩
   rw[hr]at this;cases this
  ·obtain⟨h0,o,ho,_⟩:=mem_ready.1 hi
   have his:i<ops.size:=(Array.getElem?_eq_some_iff.1 ho).1
   have hiN:i=N:=Classical.byContradiction fun hne=>by
    have:=(hL i).2 ⟨by omega,h0⟩;cases this
   subst hiN
   rw[hz]at ho;cases ho
   have hend:∀a' w',Q' .normal a' w'→wpAny P .any ops Q' 0 (listed.setIfInBounds i true) a' w':=fun a' w' hq=>by
    refine⟨?_,hq⟩
    cases hr:Region.ready .any ops (listed.setIfInBounds i true)with
    |nil=>rfl
    |cons k r=>
     have hk:k∈Region.ready .any ops (listed.setIfInBounds i true):=by rw[hr];simp
     obtain⟨h1,o',ho',_⟩:=mem_ready.1 hk
     have hks:k<ops.size:=(Array.getElem?_eq_some_iff.1 ho').1
     exfalso
     by_cases hki:k=i
     ·subst hki
      have:k<listed.size:=by omega
      simp[this]at h1
     ·rw[getD_set_ne true (Ne.symm hki)]at h1
      have:=(hL k).2 ⟨by omega,h1⟩;cases this
   unfold wpOp
   simp only[hz,Region.wanted,hzg,if_true]
   exact .inl (qF (Oper.wp_mono (fun a' w' hh=>hend a' w' hh) (hQ _ _ h)))
 |succ n ih=>
  intro L listed a w hn hsort hsz yX hL hdown hS h
  refine⟨fun hr=>?_,fun i hi=>?_⟩
  ·exfalso
   cases L with
   |nil=>simp at hn
   |cons j L=>
    obtain⟨hj,hjl⟩:=(hL j).1 (by simp)
    have hj':j<ops.size:=by omega
    have hoj:ops[j]?=some ops[j]:=by simp[hj']
    have:j∈Region.ready .any ops listed:=by
     refine mem_ready.2 ⟨hjl,_,hoj,fun e he hb=>?_⟩
     have hlt:=hok.back j _ hoj e he hb
     have hnot:e.on∉j::L:=by
      intro hmem
      rcases List.mem_cons.1 hmem with h1|h1
      ·omega
      ·have:=(List.pairwise_cons.1 hsort).1 _ h1;omega
     have h2:listed.getD e.on true≠false:=fun hf=>hnot ((hL e.on).2 ⟨by omega,hf⟩)
     have hes:e.on<listed.size:=by omega
     simp[hes]at h2 ⊢;exact h2
    rw[hr]at this;cases this
  ·obtain⟨h0,o,ho,hall⟩:=mem_ready.1 hi
   have his:i<ops.size:=(Array.getElem?_eq_some_iff.1 ho).1
   have hiN:i≠N:=fun e=>by
    subst e
    rw[hz]at ho;cases ho
    cases L with
    |nil=>simp at hn
    |cons j L=>
     obtain⟨hj,hjl⟩:=(hL j).1 (by simp)
     rcases MM j hj with⟨e,he,hb,rfl⟩|⟨e,he,hb,o',ho',e',he',hb',rfl⟩
     ·have:=hall e he hb
      rw[sS this]at hjl;cases hjl
     ·have:=hdown e.on o' ho' (hall e he hb) e' he' hb'
      rw[sS this]at hjl;cases hjl
   have hiL:i∈L:=(hL i).2 ⟨by omega,h0⟩
   obtain⟨L1,L2,rfl⟩:=List.append_of_mem hiL
   have dJ:=List.pairwise_append.1 hsort
   have hlt1:∀x∈L1,x<i:=fun x hx=>dJ.2.2 x hx i (by simp)
   have hgt2:∀x∈L2,i<x:=fun x hx=>(List.pairwise_cons.1 dJ.2.1).1 x hx
   rw[List.filterMap_append,List.filterMap_cons_some ho]at h
   have bV:=lL (P:=P) (ops:=ops) (S:=S) (st:=st) (Q:=Q) (Region.noSelect_spec hok.je i o · · ho) (L1.filterMap (ops[·]?)) (fun x hx=>by
    obtain⟨k,hk,hox⟩:=List.mem_filterMap.1 hx
    have hkl:=((hL k).1 (by simp[hk])).2
    have hnl:¬listed.getD k false=true:=fun hf=>by rw[sS hf]at hkl;cases hkl
    refine⟨(Region.noSelect_spec hok.je k x · · hox),?_⟩
    rcases hok.pair i o ho k (hlt1 k hk) x hox with⟨e,he,hb,rfl⟩|⟨hap,hor⟩
    ·exact absurd (hall e he hb) hnl
    ·refine⟨hap,?_⟩
     rcases hor with h1|h1|h1
     ·exact .inl h1
     ·exact .inr h1
     ·exact absurd (zU hok hdown i o ho hall k h1) hnl) a w hS h
   have hrest:∀a' w',S w'→aH P ops st S Q (L1.filterMap (ops[·]?)++L2.filterMap (ops[·]?)) a' w'→wpAny P .any ops Q' (n+1) (listed.setIfInBounds i true) a' w':=by
    intro a' w' hS' hh
    rw[←List.filterMap_append]at hh
    refine ih (L1++L2) (listed.setIfInBounds i true) a' w' ?_ ?_ (by simpa using hsz) (by rw[getD_set_ne true hiN];exact yX) ?_ ?_ hS' hh
    ·simp at hn ⊢;omega
    ·exact List.pairwise_append.2 ⟨dJ.1,(List.pairwise_cons.1 dJ.2.1).2,fun x hx y hy=>dJ.2.2 x hx y (by simp[hy])⟩
    ·intro j
     by_cases hji:j=i
     ·subst hji
      constructor
      ·intro hm
       exfalso
       rcases List.mem_append.1 hm with h1|h1
       ·have:=hlt1 _ h1;omega
       ·have:=hgt2 _ h1;omega
      ·rintro⟨_,hf⟩
       have:j<listed.size:=by omega
       simp[this]at hf
     ·rw[getD_set_ne true (Ne.symm hji),←hL j]
      simp[hji]
    ·intro k ok hk hkl e he hb
     by_cases hki:k=i
     ·subst hki
      rw[ho]at hk;cases hk
      exact getD_set_true (hall e he hb)
     ·rw[getD_set_ne false (Ne.symm hki)]at hkl
      exact getD_set_true (hdown k ok hk hkl e he hb)
   unfold wpOp
   simp only[ho]
   rw[bH]at bV
   split
   ·rename_i hw
    rw[if_pos hw]at bV
    refine .inl ?_
    by_cases hs:st o=true
    ·rw[if_pos hs]at bV
     obtain⟨v,hv,hh⟩:=bV
     unfold Oper.wp
     rw[hv w hS]
     exact hrest _ _ hS hh
    ·rw[if_neg hs]at bV
     exact qF (Oper.wp_mono (fun a' w' hh=>hrest a' w' hh.1 hh.2) bV)
   ·rename_i hw
    rw[if_neg hw]at bV
    exact hrest _ _ hS bV
end
def WT(ops:List Oper):Bool:=
 match ops.getLast? with
 |some z=>z.guard.isNone&&(List.range (ops.length-1)).all fun i=>z.after.toList.any fun e=>Region.binds .any e&&(e.on == i || (match ops[e.on]? with|some o=>o.after.toList.any fun e'=>Region.binds .any e'&&e'.on == i|none=>false))
 |none=>false
theorem WU{P:Program}{id:Nat}{Q':Exit→Act→World→Prop}{a:Act}{w:World}{l:List Oper}(S:World→Prop)(st:Oper→Bool)(hm:P.follows .mixedOrders=true)(hB:lM st l.toArray=true)(hZ:WT l=true)
  (hS:S w.drew) (h:aH P l.toArray st S (vG P l fun a' w'=>Q' .normal a' w') l.dropLast a w.drew):(Code.region id l.toArray true).wp P Q' a w:=by
 refine wp_region_any hm ?_
 unfold WT at hZ
 cases hg:l.getLast? with
 |none=>rw[hg]at hZ;cases hZ
 |some z=>
  rw[hg]at hZ
  simp only[Bool.and_eq_true,List.all_eq_true,List.mem_range]at hZ
  obtain⟨hz1,hz2⟩:=hZ
  have hne:l≠[]:=fun e=>by rw[e]at hg;cases hg
  have hlen:l.length=l.length-1+1:=by have:=List.length_pos_iff.2 hne;omega
  have hzi:l.toArray[l.length-1]?=some z:=by
   rw[List.getLast?_eq_getElem?]at hg;simpa using hg
  have hfm:(List.range (l.length-1)).filterMap (l.toArray[·]?)=l.dropLast:=by
   rw[List.dropLast_eq_take]
   have:∀n,(List.range n).filterMap (fun i=>l.toArray[i]?)=l.take n:=by
    intro n
    induction n with
    |zero=>simp
    |succ n ih=>
     rw[List.range_succ,List.filterMap_append,ih]
     by_cases hn:n<l.length
     ·rw[List.take_succ_eq_append_getElem hn];simp[hn]
     ·simp[hn,List.take_of_length_le (show l.length≤n by omega),List.take_of_length_le (show l.length≤n+1 by omega)]
   exact this _
  have:=aj8 (P:=P) (S:=S) (Q:=vG P l fun a' w'=>Q' .normal a' w') (xU hB) (Q':=Q') (z:=z) (N:=l.length-1) (by simpa using hlen) hzi (by simpa using hz1) (fun i hi=>by
    have:=hz2 i hi
    simp only[List.any_eq_true,Bool.and_eq_true,Bool.or_eq_true,beq_iff_eq]at this
    obtain⟨e,he,hb,h1|h1⟩:=this
    ·exact .inl ⟨e,by simpa using he,hb,h1⟩
    ·cases MQ:l[e.on]? with
     |none=>rw[MQ]at h1;cases h1
     |some o=>
      rw[MQ]at h1
      simp only[List.any_eq_true,Bool.and_eq_true,beq_iff_eq]at h1
      obtain⟨e',he',hb',h2⟩:=h1
      exact .inr ⟨e,by simpa using he,hb,o,by simpa using MQ,e',by simpa using he',hb',h2⟩) (fun a' w' hq=>by unfold vG at hq;rw[hg]at hq;exact hq) (l.length-1) (List.range (l.length-1)) (Array.replicate l.toArray.size false) a w.drew
   (by simp) List.pairwise_lt_range (by simp) (by
     have:l.length-1<l.length:=by omega
     simp[this]) (by intro j;simp;intro h1;simp[show j<l.length by omega]) (by intro k o hk hkl;exfalso;rw[Array.getD_eq_getD_getElem?,Array.getElem?_replicate]at hkl;split at hkl<;>simp at hkl) hS (by rw[hfm];exact h)
  rw[←hlen]at this
  simpa using this
end Go.WW
namespace Go.WW
open Go.RowKit
def H9(W0 w:World)(s:Sl):Nat→Prop:=fun j=>(W0.heap.size≤j∧j<w.heap.size)∨(j=w.heap.size∨j=w.heap.size+1)∨some j=s.blk
structure MR(W0 w W3:World)(T:TypeId)(s2:Sl)(rK:List (Array Value))(L:List bn)(k:Nat)(R:List (Array Value))(wr:World):Prop where
 but:But (fun j=>some j=s2.blk) W3 wr
 own:∃b2,w.heap.size+2≤b2∧Own wr b2 T 5 s2 R∧∀g,s2.blk=some g→g<W3.heap.size
 len:R.length=L.length
 done:∀j (h:j<R.length) (h':j<L.length),j<k→∃s:Sl,R[j]=aZ s L[j]∧∀y,But (H9 W0 w s2) wr y→uq (span w.heap.size wr.heap.size) y s.a L[j].keys
 rest:∀j (h:j<R.length) (h':j<rK.length),k≤j→R[j]=rK[j]
structure MS(W0 w V:World)(base:Nat)(T:TypeId)(s2 s3:Sl)(rk:List (Array Value))(L:List Key)(q:Nat)(R:List (Array Value))(wr:World):Prop where
 but:But (fun j=>some j=s3.blk) V wr
 own:Own wr base T 3 s3 R
 len:R.length=L.length
 done:∀j (h:j<R.length) (h':j<L.length),j<q→∃s:Sl,R[j]=bW s L[j]∧∀y,But (fun i=>H9 W0 w s2 i∨some i=s3.blk) wr y→xu (span w.heap.size wr.heap.size) y s.a L[j].bytes
 rest:∀j (h:j<R.length) (h':j<rk.length),q≤j→R[j]=rk[j]
theorem xu.mono{S T:Nat→Prop}{w:World}{a:Option Addr}{l:List UInt8}(h:xu S w a l)(hS:∀b,S b→T b):xu T w a l:=⟨h.1,h.2.mono hS⟩
end Go.WW
namespace Go.Proofs.YtfieenjdcpjmgaaGreatDoor
open Go.RowKit Go.WW
def aj9(W0:World)(d:Entry)(w:World)(z:Ending)(w':World):Prop:=
 ∃r',z=.returned (.agg (ae r' d))∧Below w.heap.size w w'∧∀y,But (fun k=>W0.heap.size≤k∧k<w.heap.size) w' y→rQ (span w.heap.size w'.heap.size) y r' d
theorem aka(W0:World)(r:aN)(d:Entry)(w:World)(hW:Below W0.heap.size W0 w)(he:bJ W0 r d):Calls Tryz.prog 33 #[.agg (ae r d)] w (aj9 W0 d w):=by
 have hW0:=hW.size
 have n0:d.name.parts.length≤4294967000:=he.name.1.1
 have n1:d.aliases.length≤4294967000:=he.aliases.1
 have n2:d.keys.length≤4294967000:=he.keys.1
 obtain⟨rP,lP,sP,qP⟩:=dU.src he.name.1 TL
 obtain⟨rA,lA,sA,qA⟩:=aV.src he.aliases CQ
 obtain⟨rK,lK,sK,qK⟩:=aV.src he.keys ajY
 have LP:=Lib.hid lP
 have LA:=Lib.hid lA
 have LK:=Lib.hid lK
 have SP:=Lib.hid sP
 have SA:=Lib.hid sA
 have SK:=Lib.hid sK
 have QP:=Lib.hid qP
 have QA:=Lib.hid qA
 have QK:=Lib.hid qK
 have HE:=Lib.hid he
 clear lP lA lK sP sA sK qP qA qK he
 go_enter Tryz.func33,Tryz.ntmps33
 go_step
 apply MN (M:=fun V=>Below w.heap.size w V∧V.heap[w.heap.size]?=some (.cells (ae r d) 47)∧aQ V (w.heap.size+1) 0 17=true∧w.heap.size+2≤V.heap.size)
 case h1=>
  go_wp2_with fail
  rw[←rq]
  exact⟨rfl,⟨aj (aj (Below.refl _ w) _) _,jQ w _ _,by simp[go_sem],by simp⟩⟩
 rintro V0 ⟨hB0,hx0,hz0,hs0⟩
 iterate 3 go_step
 obtain⟨hc,hf,hr,hl⟩:=aC hx0
 apply uu (M:=fun(s:Sl) V=>Go.WW.Own V V0.heap.size 9 1 s rP∧V.heap[w.heap.size]?=some (.cells (ae {r with parts:=s} d) 47)∧But (·=w.heap.size) V0 V)
 case h1=>
  have HS:=Lib.hid ((SP.out.later hW).later (ag hB0 (aj (Below.refl _ V0) (.cells #[] 9))))
  have hown:=Own.empty V0 9 1
  go_wp2_with (
    at_builtin;go_loud (refine gp rfl (.tmp 5) (.tmp 8) _ rfl TN (n:=0) (s:=⟨some ⟨V0.heap.size,0,none⟩,0⟩) rfl rfl hown rfl LP.out.symm HS.out (by rw[LP.out];simp;omega) (by simp) ?_);intro s3 w3 hown3 hg3 gq
    have hb3:=DV hown (aj (Below.refl _ V0) _) hg3
    have hx3:=aJ hb3 hx0
    obtain⟨hc3,hf3,hr3,hl3⟩:=aC hx3)
  obtain⟨q1,q2,q3⟩:=MO (o:=0) hown3 hb3 hx0 (.slice s3.a d.name.parts.length s3.cap)
  rw[aj0]at q2
  exact⟨s3,rfl,⟨q1,q2,q3⟩⟩
 rintro s0 V1 ⟨ho1,hx1,Ia⟩
 have hB1:Below w.heap.size w V1:=((But.of_below (S:=fun _=>False) hB0).past Ia (fun j hj=>by omega)).below (Nat.le_refl _) (fun _ h=>h.elim)
 have hg0:∀g,s0.blk=some g→w.heap.size+2≤g∧g<V1.heap.size:=fun g hg=>⟨Nat.le_trans hs0 (ho1.base hg).1,(ho1.base hg).2⟩
 have hs1:V0.heap.size≤V1.heap.size:=Ia.size
 have hz1:aQ V1 (w.heap.size+1) 0 17=true:=by rw[sO (Ia.block _ (by omega) (by omega))];exact hz0
 clear hc hf hr hl hx0 hz0
 generalize hr1:({r with parts:=s0}:aN)=r1 at *
 obtain⟨hc,hf,hr,hl⟩:=aC hx1
 iterate 3 go_step
 apply uu (M:=fun(s:Sl) V=>Go.WW.Own V V1.heap.size 40 2 s rA∧V.heap[w.heap.size]?=some (.cells (ae {r1 with aliases:=s} d) 47)∧But (·=w.heap.size) V1 V)
 case h1=>
  have HS:=Lib.hid ((SA.out.later hW).later (ag hB1 (aj (Below.refl _ V1) (.cells #[] 40))))
  have hown:=Own.empty V1 40 2
  have ha1:r1.aliases=r.aliases:=by rw[←hr1]
  rw[←ha1]at HS
  clear ha1
  go_wp2_with (
    at_builtin;refine gp rfl (.tmp 12) (.tmp 14) _ rfl Am (n:=0) (s:=⟨some ⟨V1.heap.size,0,none⟩,0⟩) rfl rfl hown rfl LA.out.symm HS.out (by rw[LA.out];simp;omega) (by simp) ?_;intro s3 w3 hown3 hg3 gq
    have hb3:=DV hown (aj (Below.refl _ V1) _) hg3
    have hx3:=aJ hb3 hx1
    obtain⟨hc3,hf3,hr3,hl3⟩:=aC hx3)
  obtain⟨q1,q2,q3⟩:=MO (o:=2) hown3 hb3 hx1 (.slice s3.a d.aliases.length s3.cap)
  rw[aj1]at q2
  exact⟨s3,rfl,⟨q1,q2,q3⟩⟩
 rintro s1 V2 ⟨ho2,hx2,DW⟩
 have hB2:Below w.heap.size w V2:=((But.of_below (S:=fun _=>False) hB1).past DW (fun j hj=>by omega)).below (Nat.le_refl _) (fun _ h=>h.elim)
 have hg1:∀g,s1.blk=some g→w.heap.size+2≤g∧g<V2.heap.size:=fun g hg=>⟨by have:=(ho2.base hg).1;omega,(ho2.base hg).2⟩
 have hs2:V1.heap.size≤V2.heap.size:=DW.size
 have hz2:aQ V2 (w.heap.size+1) 0 17=true:=by rw[sO (DW.block _ (by omega) (by omega))];exact hz1
 have WV:=ho1.but DW (fun g hg=>by have:=hg0 g hg;omega)
 have hk1:=Lib.hid (show r1.keys=r.keys by rw[←hr1])
 clear hc hf hr hl hx1 hz1
 generalize hr2:({r1 with aliases:=s1}:aN)=r2 at *
 obtain⟨hc,hf,hr,hl⟩:=aC hx2
 iterate 3 go_step
 apply uu (M:=fun(s:Sl) V=>Go.WW.Own V V2.heap.size 67 5 s rK∧V.heap[w.heap.size]?=some (.cells (ae {r2 with keys:=s} d) 47)∧But (·=w.heap.size) V2 V)
 case h1=>
  have HS:=Lib.hid ((SK.out.later hW).later (ag hB2 (aj (Below.refl _ V2) (.cells #[] 67))))
  have hown:=Own.empty V2 67 5
  have ha1:r2.keys=r.keys:=by rw[←hr2];exact hk1.out
  rw[←ha1]at HS
  clear ha1
  go_wp2_with (
    at_builtin;refine gp rfl (.tmp 17) (.tmp 19) _ rfl TQ (n:=0) (s:=⟨some ⟨V2.heap.size,0,none⟩,0⟩) rfl rfl hown rfl LK.out.symm HS.out (by rw[LK.out];simp;omega) (by simp) ?_;intro s3 w3 hown3 hg3 gq
    have hb3:=DV hown (aj (Below.refl _ V2) _) hg3
    have hx3:=aJ hb3 hx2
    obtain⟨hc3,hf3,hr3,hl3⟩:=aC hx3)
  obtain⟨q1,q2,q3⟩:=MO (o:=5) hown3 hb3 hx2 (.slice s3.a d.keys.length s3.cap)
  rw[aj2]at q2
  exact⟨s3,rfl,⟨q1,q2,q3⟩⟩
 rintro s2 V3 ⟨ho3,hx3,wX⟩
 have hB3:Below w.heap.size w V3:=((But.of_below (S:=fun _=>False) hB2).past wX (fun j hj=>by omega)).below (Nat.le_refl _) (fun _ h=>h.elim)
 have hg2:∀g,s2.blk=some g→V2.heap.size≤g∧g<V3.heap.size:=fun g hg=>ho3.base hg
 have hs3:V2.heap.size≤V3.heap.size:=wX.size
 have hz3:aQ V3 (w.heap.size+1) 0 17=true:=by rw[sO (wX.block _ (by omega) (by omega))];exact hz2
 have WX:=WV.but wX (fun g hg=>by have:=hg0 g hg;omega)
 have WY:=ho2.but wX (fun g hg=>by have:=hg1 g hg;omega)
 clear hc hf hr hl hx2 hz2 WV ho1 ho2
 generalize hr3:({r2 with keys:=s2}:aN)=r3 at *
 have HR3:=Lib.hid (show r3.parts=s0∧r3.aliases=s1∧r3.keys=s2∧r3.targets=r.targets∧r3.bu=r.bu∧r3.history=r.history by subst hr3 hr2 hr1;exact⟨rfl,rfl,rfl,rfl,rfl,rfl⟩)
 clear hr3 hr2 hr1 hk1
 have MV:=Lib.hid hg0
 have MW:=Lib.hid hg1
 have HG2:=Lib.hid hg2
 have HO1:=Lib.hid WX
 have HO2:=Lib.hid WY
 have HB3:=Lib.hid hB3
 have WZ:=Lib.hid hx3
 have HZ3:=Lib.hid hz3
 clear hg0 hg1 hg2 WX WY hB3 hx3 hz3 Ia DW wX hB0 hB1 hB2
 have hI:MR W0 w V3 67 s2 rK d.keys 0 rK V3:=⟨But.refl _ _,⟨V2.heap.size,by omega,ho3,fun g hg=>(HG2.out g hg).2⟩,LK.out,fun j _ _ h=>absurd h (Nat.not_lt_zero _),fun j _ _ _=>rfl⟩
 clear ho3
 go_wp2_with fail
 go_loopw [3] (fun iv wr=>∃(k:Nat) (R:List (Array Value)),k≤d.keys.length∧iv=.int .i64 k∧MR W0 w V3 67 s2 rK d.keys k R wr) (fun iv _=>d.keys.length-(intOf iv).toNat)
 case atStart=>exact⟨0,rK,Nat.zero_le _,rfl,hI⟩
 case round=>
  clear hI
  obtain⟨w1,rfl⟩:∃w1,w1=wr:=⟨_,rfl⟩
  obtain⟨k,R,hk,rfl,hI⟩:=hrel
  obtain⟨b2,hb2,Ib,aqc⟩:=hI.own
  have oO:V3.heap.size≤w1.heap.size:=hI.but.size
  have aqd:=HB3.out.size
  have hxr:w1.heap[w.heap.size]?=some (.cells (ae r3 d) 47):=(hI.but.block _ (Array.getElem?_eq_some_iff.1 WZ.out).1 (fun h=>by have:=HG2.out _ h.symm;omega)).trans WZ.out
  have hBr:Below w.heap.size w w1:=((But.of_below (S:=fun _=>False) HB3.out).past hI.but (fun j hj=>by have:=HG2.out _ hj.symm;omega)).below (Nat.le_refl _) (fun _ h=>h.elim)
  obtain⟨hc,hf,hr,hl⟩:=aC hxr
  have h5:=(hc 5).trans (Cc r3 d)
  rw[HR3.out.2.2.1]at h5
  by_cases hlt:k<d.keys.length
  ·clear hc hf hr
   have hkR:k<R.length:=by rw[hI.len];exact hlt
   have Xa:k<rK.length:=by rw[LK.out];exact hlt
   obtain⟨g2,ha2,hbk2,Xb,hrow2,hcp2⟩:=Ib.at_ k hkR
   have hRk:=hI.rest k hkR Xa (Nat.le_refl _)
   obtain⟨kk,t,hkk,hrt,hst⟩:=QK.out k Xa
   rw[List.getElem?_eq_getElem hlt]at hkk
   cases hkk
   have MX:=hRk.trans hrt
   rw[MX]at hrow2
   obtain⟨rk,lk,sk,qk⟩:=aV.src hst.1 ajZ
   rw[ha2]at h5
   have HA2:=Lib.hid ha2
   clear ha2
   have hc1:=gJ hrow2 1 (by omega)
   rw[BZ]at hc1
   have hf1:=xq hcp2 (k*5+1)
   have nk:d.keys[k].keys.length≤4294967000:=hst.1.1
   have HI:=Lib.hid hI
   have LQ:=Lib.hid hbk2
   have HRT:=Lib.hid MX
   have Xc:=Lib.hid Ib
   have Ic:=Lib.hid lk
   have SKK:=Lib.hid sk
   have QKK:=Lib.hid qk
   have yZ:=Lib.hid hBr
   have hgw:w.heap.size+2≤g2∧g2<V3.heap.size:=by have:=HG2.out _ hbk2;omega
   have aqe:g2≠w.heap.size:=by omega
   clear hI hbk2 hRk hrt MX Ib lk sk qk hBr hcp2 hrow2 hst
   go_wp2_with fail
   apply uu (M:=fun(s:Sl) V=>Go.WW.Own V w1.heap.size 69 3 s rk∧But (fun j=>some j=s2.blk) w1 V∧Go.WW.Own V b2 67 5 s2 (R.set k (aZ s d.keys[k])))
   case h1=>
    have HO:=Lib.hid (Own.empty w1.drew 69 3)
    have HS:=Lib.hid ((SKK.out.later hW).later (ag yZ.out (aj (Below.refl _ w1).drew (.cells #[] 69))))
    refine WU (nH (fun _=>False) w1) fO (by kernel_rfl) (by kernel_rfl) (by kernel_rfl) ⟨⟨World.drew w1,(But.refl _ _).drew⟩,rfl⟩ ?_
    repeat (first|(refine ak (by rfl) ?_)|(refine aP (by rfl) (by rfl) (fun K hK=>?_);go_big_quiet_op;refine hK _ ?_;clear hK K))
    refine aT (by rfl) (by rfl) (fun K hK=>?_)
    go_wp2_with fail
    refine hK _ _ (cu (But.of_below (aj (Below.refl _ w1).drew _))) ?_
    clear hK K
    repeat (first|(refine ak (by rfl) ?_)|(refine aP (by rfl) (by rfl) (fun K hK=>?_);go_big_quiet_op;refine hK _ ?_;clear hK K))
    refine aT (by rfl) (by rfl) (fun K hK=>?_)
    refine yY (.tmp 32) (.tmp 38) _ rfl TP (n:=0) (s:=⟨some ⟨w1.heap.size,0,none⟩,0⟩) rfl rfl HO.out rfl Ic.out.symm HS.out (by rw[Ic.out];simp;omega) (by simp) ?_
    intro s3 w3 hown3 hg3 gq
    have hb3:Below w1.heap.size w1 w3:=(aj (Below.refl _ w1).drew (.cells #[] 69)).grown hg3 (by simp) (fun k' e'=>by cases e';exact Nat.le_refl _)
    go_wp2_with fail
    refine hK _ _ (cu (But.of_below hb3)) ?_
    clear hK K
    repeat (first|(refine ak (by rfl) ?_)|(refine aP (by rfl) (by rfl) (fun K hK=>?_);go_big_quiet_op;refine hK _ ?_;clear hK K))
    refine bQ ?_
    unfold vG
    simp only[List.getLast?_cons_cons,List.getLast?_singleton]
    have hc3:=(hb3.cell (p:=⟨g2,k*5+1,none⟩) Xb).trans hc1
    have hf3:=(hb3.frozen (p:=⟨g2,k*5+1,none⟩) Xb).trans hf1
    have hown4:=Xc.out.kept (w':=w3) (fun g hg=>hb3.block g (Xc.out.base hg).2)
    have hown5:=hown4.setCell HA2.out k 1 hkR (by omega) (.slice s3.a d.keys[k].keys.length s3.cap)
    rw[HRT.out,aj3]at hown5
    have hown6:Go.WW.Own (w3.setCell ⟨g2,k*5+1,none⟩ (.slice s3.a d.keys[k].keys.length s3.cap)) w1.heap.size 69 3 s3 rk:=by
     rw[List.nil_append]at hown3
     exact hown3.kept fun g hg=>Below.heap_setCell _ _ _ _ (show g≠g2 by have:=(hown3.base hg).1;simp at this;omega)
    have DX:But (fun j=>some j=s2.blk) w1 (w3.setCell ⟨g2,k*5+1,none⟩ (.slice s3.a d.keys[k].keys.length s3.cap)):=AP (But.of_below hb3) (.inl LQ.out.symm)
    clear hown3 hown4
    have H5:=Lib.hid hown5
    have H6:=Lib.hid hown6
    have H7:=Lib.hid DX
    clear hown5 hown6 DX
    go_wp2_with fail
    exact⟨s3,rfl,⟨H6.out,H7.out,H5.out⟩⟩
   rintro s3 V ⟨MZ,vH,Na⟩
   have LU:w1.heap.size≤V.heap.size:=vH.size
   have Xd:V.heap[w.heap.size]?=some (.cells (ae r3 d) 47):=(vH.block _ hl (fun h=>by have:=HG2.out _ h.symm;omega)).trans hxr
   have GU:∀g,s3.blk=some g→w1.heap.size≤g∧g<V.heap.size:=fun g hg=>MZ.base hg
   obtain⟨g2',Xe,-,akg,Nb,akh⟩:=Na.at_ k (by rw[List.length_set];exact hkR)
   rw[HA2.out]at Xe
   cases Xe
   rw[List.getElem_set_self]at Nb
   have Xf:=gJ Nb 1 (by omega)
   rw[BZ]at Xf
   clear hc1 hf1 h5 Nb akh
   obtain⟨hc,-,-,DY⟩:=aC Xd
   have Xg:=(hc 5).trans (Cc r3 d)
   rw[HR3.out.2.2.1,HA2.out]at Xg
   clear hc
   have hJ:MS W0 w V w1.heap.size 69 s2 s3 rk d.keys[k].keys 0 rk V:=⟨But.refl _ _,MZ,Ic.out,fun j _ _ h=>absurd h (Nat.not_lt_zero _),fun j _ _ _=>rfl⟩
   have xy:=Lib.hid vH
   have HOV:=Lib.hid Na
   have uw:=Lib.hid GU
   clear vH Na GU MZ hxr Xd
   iterate 3 go_step
   go_wp2_with fail
   go_loopw [4] (fun jv wr=>∃(q:Nat) (R3:List (Array Value)),q≤d.keys[k].keys.length∧jv=.int .i64 q∧MS W0 w V w1.heap.size 69 s2 s3 rk d.keys[k].keys q R3 wr) (fun jv _=>d.keys[k].keys.length-(intOf jv).toNat)
   case atStart=>exact⟨0,rk,Nat.zero_le _,rfl,hJ⟩
   case round=>
    clear hJ
    obtain⟨q,R3,hq,rfl,hJ⟩:=hrel
    have hsj:V.heap.size≤wr.heap.size:=hJ.but.size
    have h5:=(hJ.but.cell (o:=5) DY (fun h=>by have:=uw.out _ h.symm;omega)).trans Xg
    have hc1:=(hJ.but.cell (o:=k*5+1) akg (fun h=>by have:=uw.out _ h.symm;omega)).trans Xf
    have hlj:w.heap.size<wr.heap.size:=by omega
    have hgj:g2<wr.heap.size:=by omega
    have Nc:=hJ.own
    by_cases Nh:q<d.keys[k].keys.length
    ·have Nj:q<R3.length:=by rw[hJ.len];exact Nh
     have Xh:q<rk.length:=by rw[Ic.out];exact Nh
     obtain⟨g3,um,Ie,Xi,hrow3,AY⟩:=Nc.at_ q Nj
     have Xj:=hJ.rest q Nj Xh (Nat.le_refl _)
     obtain⟨kk,t3,hkk,Xk,hst3⟩:=QKK.out q Xh
     rw[List.getElem?_eq_getElem Nh]at hkk
     cases hkk
     have Nk:=Xj.trans Xk
     rw[Nk]at hrow3
     obtain⟨rb,lb,sb,qb⟩:=dU.src hst3 Gl
     have hc2:=gJ hrow3 2 (by omega)
     rw[Ff]at hc2
     have hf2:=xq AY (q*3+2)
     have nb:d.keys[k].keys[q].bytes.length≤4294967000:=hst3.1
     have aqf:w1.heap.size≤g3:=(uw.out _ Ie).1
     have aqg:g3<V.heap.size:=(uw.out _ Ie).2
     have HJ:=Lib.hid hJ
     have akj:=Lib.hid Ie
     have akk:=Lib.hid Nk
     have Xl:=Lib.hid Nc
     have LB:=Lib.hid lb
     have SB:=Lib.hid sb
     have QB:=Lib.hid qb
     rw[um]at hc1
     have HA3:=Lib.hid um
     clear um
     have HBj:=Lib.hid (show Below w.heap.size w wr from(((But.of_below (S:=fun _=>False) yZ.out).past xy.out (fun j hj=>by have:=HG2.out _ hj.symm;omega)).past hJ.but (fun j hj=>by have:=uw.out _ hj.symm;omega)).below (Nat.le_refl _) (fun _ h=>h.elim))
     clear hJ Ie Xj Xk Nk Nc lb sb qb AY hrow3 hst3
     go_wp2_with fail
     apply uu (M:=fun(s:Sl) V'=>Go.WW.Own V' wr.heap.size 5 1 s rb∧But (fun j=>some j=s3.blk) wr V'∧Go.WW.Own V' w1.heap.size 69 3 s3 (R3.set q (bW s d.keys[k].keys[q])))
     case h1=>
      have HO:=Lib.hid (Own.empty wr.drew 5 1)
      have HS:=Lib.hid ((SB.out.later hW).later (ag HBj.out (aj (Below.refl _ wr).drew (.cells #[] 5))))
      refine WU (nH (fun _=>False) wr) fO (by kernel_rfl) (by kernel_rfl) (by kernel_rfl) ⟨⟨World.drew wr,(But.refl _ _).drew⟩,rfl⟩ ?_
      repeat (first|(refine ak (by rfl) ?_)|(refine aP (by rfl) (by rfl) (fun K hK=>?_);go_big_quiet_op;refine hK _ ?_;clear hK K))
      refine aT (by rfl) (by rfl) (fun K hK=>?_)
      go_wp2_with fail
      refine hK _ _ (cu (But.of_below (aj (Below.refl _ wr).drew _))) ?_
      clear hK K
      repeat (first|(refine ak (by rfl) ?_)|(refine aP (by rfl) (by rfl) (fun K hK=>?_);go_big_quiet_op;refine hK _ ?_;clear hK K))
      refine aT (by rfl) (by rfl) (fun K hK=>?_)
      refine yY (.tmp 60) (.tmp 70) _ rfl dZ (n:=0) (s:=⟨some ⟨wr.heap.size,0,none⟩,0⟩) rfl rfl HO.out rfl LB.out.symm HS.out (by rw[LB.out];simp;omega) (by simp) ?_
      intro s4 w3 hown3 hg3 gq
      have hb3:Below wr.heap.size wr w3:=(aj (Below.refl _ wr).drew (.cells #[] 5)).grown hg3 (by simp) (fun k' e'=>by cases e';exact Nat.le_refl _)
      go_wp2_with fail
      refine hK _ _ (cu (But.of_below hb3)) ?_
      clear hK K
      repeat (first|(refine ak (by rfl) ?_)|(refine aP (by rfl) (by rfl) (fun K hK=>?_);go_big_quiet_op;refine hK _ ?_;clear hK K))
      refine bQ ?_
      unfold vG
      simp only[List.getLast?_cons_cons,List.getLast?_singleton]
      have hc3:=(hb3.cell (p:=⟨g3,q*3+2,none⟩) Xi).trans hc2
      have hf3:=(hb3.frozen (p:=⟨g3,q*3+2,none⟩) Xi).trans hf2
      have hown4:=Xl.out.kept (w':=w3) (fun g hg=>hb3.block g (Xl.out.base hg).2)
      have hown5:=hown4.setCell HA3.out q 2 Nj (by omega) (.slice s4.a d.keys[k].keys[q].bytes.length s4.cap)
      rw[akk.out,aj6]at hown5
      have hown6:Go.WW.Own (w3.setCell ⟨g3,q*3+2,none⟩ (.slice s4.a d.keys[k].keys[q].bytes.length s4.cap)) wr.heap.size 5 1 s4 rb:=by
       rw[List.nil_append]at hown3
       exact hown3.kept fun g hg=>Below.heap_setCell _ _ _ _ (show g≠g3 by have:=(hown3.base hg).1;simp at this;omega)
      have DX:But (fun j=>some j=s3.blk) wr (w3.setCell ⟨g3,q*3+2,none⟩ (.slice s4.a d.keys[k].keys[q].bytes.length s4.cap)):=AP (But.of_below hb3) (.inl akj.out.symm)
      clear hown3 hown4
      have H5:=Lib.hid hown5
      have H6:=Lib.hid hown6
      have H7:=Lib.hid DX
      clear hown5 hown6 DX
      go_wp2_with fail
      exact⟨s4,rfl,⟨H6.out,H7.out,H5.out⟩⟩
     rintro s4 V' ⟨DZ,Ig,Xm⟩
     have akn:wr.heap.size≤V'.heap.size:=Ig.size
     have HJ':=Lib.hid (show MS W0 w V w1.heap.size 69 s2 s3 rk d.keys[k].keys (q+1) (R3.set q (bW s4 d.keys[k].keys[q])) V' from by
      refine⟨HJ.out.but.trans Ig,Xm,by rw[List.length_set];exact HJ.out.len,fun j hj hj' hjq=>?_,fun j hj hj' hjq=>?_⟩
      ·by_cases e:j=q
       ·subst e
        refine⟨s4,by rw[List.getElem_set_self],fun y hy=>?_⟩
        have hoy:=DZ.but hy (fun g hg=>by
         have h1:=(DZ.base hg).1
         rintro((h|h|h)|h)
         ·omega
         ·omega
         ·have:=HG2.out _ h.symm;omega
         ·have:=uw.out _ h.symm;omega)
        refine⟨dU.ed hoy LB.out (by unfold lim;omega) QB.out,lY.ed hoy LB.out (fun g hg=>⟨by have:=(DZ.base hg).1;omega,(DZ.base hg).2⟩)⟩
       ·obtain⟨s,h1,h2⟩:=HJ.out.done j (by rw[List.length_set]at hj;exact hj) hj' (by omega)
        refine⟨s,by rw[List.getElem_set_ne (Ne.symm e)];exact h1,fun y hy=>(h2 y ((Ig.mono fun i hi=>.inr hi).trans hy)).mono fun b hb=>⟨hb.1,Nat.lt_of_lt_of_le hb.2 akn⟩⟩
      ·rw[List.getElem_set_ne (show q≠j by omega)]
       exact HJ.out.rest j (by rw[List.length_set]at hj;exact hj) hj' (by omega))
     clear DZ Ig Xm
     iterate 3 go_step
     go_wp2_with fail
     go_roundw
     case rel=>exact⟨q+1,_,by omega,by go_num,HJ'.out⟩
     case measure=>simp[intOf];omega
    ·obtain rfl:q=d.keys[k].keys.length:=by omega
     have HI':=Lib.hid (show MR W0 w V3 67 s2 rK d.keys (k+1) (R.set k (aZ s3 d.keys[k])) wr from by
      have hbw:But (H9 W0 w s2) w1 wr:=(xy.out.mono (fun j hj=>.inr (.inr hj))).past hJ.but (fun j hj=>by have:=uw.out _ hj.symm;omega)
      refine⟨(HI.out.but.trans xy.out).past hJ.but (fun j hj=>by have:=uw.out _ hj.symm;omega),⟨b2,hb2,HOV.out.but hJ.but (fun g hg h=>by have:=uw.out _ h.symm;have:=HG2.out _ hg;omega),fun g hg=>(HG2.out g hg).2⟩,by rw[List.length_set];exact HI.out.len,fun j hj hj' hjk=>?_,fun j hj hj' hjk=>?_⟩
      ·by_cases e:j=k
       ·subst e
        refine⟨s3,by rw[List.getElem_set_self],fun y hy=>?_⟩
        have hoy:=hJ.own.but hy (fun g hg=>by
         have h1:=(uw.out _ hg).1
         rintro(h|h|h)
         ·omega
         ·omega
         ·have:=HG2.out _ h.symm;omega)
        refine aV.ed hoy hJ.len nk fun i hi=>?_
        have hi':i<d.keys[j].keys.length:=by rw[←hJ.len];exact hi
        obtain⟨s,h1,h2⟩:=hJ.done i hi hi' hi'
        exact⟨_,s,List.getElem?_eq_getElem hi',h1,h2 y (hy.mono fun i hi=>.inl hi)⟩
       ·obtain⟨s,h1,h2⟩:=HI.out.done j (by rw[List.length_set]at hj;exact hj) hj' (by omega)
        refine⟨s,by rw[List.getElem_set_ne (Ne.symm e)];exact h1,fun y hy=>(h2 y (hbw.trans hy)).mono fun b hb=>⟨hb.1,Nat.lt_of_lt_of_le hb.2 hbw.size⟩⟩
      ·rw[List.getElem_set_ne (show k≠j by omega)]
       exact HI.out.rest j (by rw[List.length_set]at hj;exact hj) hj' (by omega))
     clear hJ
     go_wp2_with fail
     go_roundw
     case rel=>exact⟨k+1,_,by omega,by go_num,HI'.out⟩
     case measure=>simp[intOf];omega
  ·obtain rfl:k=d.keys.length:=by omega
   have hzr:aQ w1 (w.heap.size+1) 0 17=true:=by
    have hlt1:w.heap.size+1<V3.heap.size:=by
     have h:=HZ3.out
     unfold aQ at h
     split at h
     ·rename_i hb;exact(Array.getElem?_eq_some_iff.1 hb).1
     ·cases h
    rw[sO (hI.but.block _ hlt1 (fun h=>by have:=HG2.out _ h.symm;omega))];exact HZ3.out
   have hrw:row? w1 w.heap.size 0 17=some (ae r3 d):=by rw[bP hxr];exact dm (by simp[go_sem])
   have HI:=Lib.hid hI
   clear hI hc hf hr
   go_wp2_with fail
   have hrow:=iT (w:=w1) (Cb r3 d) hzr
   refine bodyPost_ret (Kv (by rfl) Tryz.underlying47 rfl (by kernel_rfl) rfl hrow) rfl ⟨r3,rfl,Go.WW.Below.putRow hBr (by omega),fun y hy=>?_⟩
   have hps:(putRow w1 (w.heap.size+1) 0 (ae r3 d)).heap.size=w1.heap.size:=by rw[kG]
   have hy2:But (fun j=>(W0.heap.size≤j∧j<w.heap.size)∨j=w.heap.size+1) w1 y:=((But.refl _ w1).put (.inr rfl)).trans (hy.mono fun k hk=>.inl hk)
   have hy1:But (H9 W0 w s2) w1 y:=hy2.mono fun k hk=>hk.imp id fun h=>.inl (.inr h)
   have Xn:Below W0.heap.size W0 y:=(hW.trans (hBr.mono hW0)).trans (hy2.below (n:=W0.heap.size) (by omega) (fun k hk=>by omega))
   have Nl:∀g,w.heap.size+2≤g→¬((W0.heap.size≤g∧g<w.heap.size)∨g=w.heap.size+1):=fun g hg h=>by omega
   have hE:=HE.out.later Xn
   have cZ:=HR3.out
   have Xo:=((HO1.out.but HI.out.but (fun g hg h=>by have:=MV.out _ hg;have:=HG2.out _ h.symm;omega)).but hy2 (fun g hg=>Nl g (MV.out _ hg).1))
   have Xp:=((HO2.out.but HI.out.but (fun g hg h=>by have:=MW.out _ hg;have:=HG2.out _ h.symm;omega)).but hy2 (fun g hg=>Nl g (MW.out _ hg).1))
   have Np:=Ib.but hy2 (fun g hg=>Nl g (by have:=HG2.out _ hg;omega))
   have hS3:aV y 5 s2.a d.keys.length (fun i cs=>∃p s,d.keys[i]?=some p∧cs=aZ s p∧WQ (span w.heap.size (putRow w1 (w.heap.size+1) 0 (ae r3 d)).heap.size) y s p):=
    aV.ed Np HI.out.len n2 fun i hi=>by
     have hi':i<d.keys.length:=by rw[←HI.out.len];exact hi
     obtain⟨s,h1,h2⟩:=HI.out.done i hi hi' hi'
     have h3:=mg.get hE.keys i hi'
     obtain⟨_,_,_,_,_,h4⟩:=h3
     exact⟨_,s,List.getElem?_eq_getElem hi',h1,by rw[hps];exact h2 y hy1,h4.2⟩
   have hfr:∀g,w.heap.size+2≤g→g<V3.heap.size→span w.heap.size (putRow w1 (w.heap.size+1) 0 (ae r3 d)).heap.size g:=fun g h1 h2=>⟨by omega,by rw[hps];omega⟩
   refine⟨⟨?_,?_,?_,?_,?_,?_,hE.aO,hE.attrs⟩,?_,?_,?_⟩
   ·rw[cZ.1]
    exact⟨dU.ed Xo LP.out (by unfold lim;omega) QP.out,hE.name.2⟩
   ·rw[cZ.2.1]
    exact aV.ed Xp LA.out (by unfold lim;omega) (fun i hi=>by
     obtain⟨p,s,h1,h2,h3⟩:=QA.out i hi
     exact⟨p,s,h1,h2,h3.later Xn⟩)
   ·rw[cZ.2.2.1];exact AV.at_ ⟨hS3,lY.ed Np HI.out.len (fun g hg=>by have:=HG2.out _ hg;exact hfr g (by omega) this.2)⟩
   ·rw[cZ.2.2.2.1];exact hE.targets
   ·rw[cZ.2.2.2.2.1];exact hE.bu
   ·rw[cZ.2.2.2.2.2];exact hE.history
   ·rw[cZ.1];exact lY.ed Xo LP.out (fun g hg=>by have:=MV.out _ hg;exact hfr g this.1 (by omega))
   ·rw[cZ.2.1];exact lY.ed Xp LA.out (fun g hg=>by have:=MW.out _ hg;exact hfr g this.1 (by omega))
   ·rw[cZ.2.2.1];exact⟨hS3,lY.ed Np HI.out.len (fun g hg=>by have:=HG2.out _ hg;exact hfr g (by omega) this.2)⟩
end Go.Proofs.YtfieenjdcpjmgaaGreatDoor
namespace Go.WW
open Go.RowKit
structure dX where
 k:UInt8
 d:Entry
 q:az
 a:Int
 b:Int
 c:Int
 p:ah
structure jm where
 r:aN
 t:Sl
def mX(x:dX):Array Value:=#[.int .i64 x.a,.int .i64 x.b,.int .i64 x.c]
theorem akr(x:dX):(mX x).size=3:=by simp[mX]
theorem aks(x:dX):dG (mX x)=true:=by simp[dG,mX,Value.oneCell']
theorem akt(x:dX)(h:0<(mX x).size):(mX x)[0]'h=.int .i64 x.a:=by simp[mX]
theorem aku(x:dX)(h:1<(mX x).size):(mX x)[1]'h=.int .i64 x.b:=by simp[mX]
theorem akv(x:dX)(h:2<(mX x).size):(mX x)[2]'h=.int .i64 x.c:=by simp[mX]
attribute [go_sem] akt aku akv akr aks
def bZ(z:jm)(x:dX):Array Value:=#[.int .u8 x.k.toNat]++(ae z.r x.d++(ai z.t x.q++(#[.int .i64 x.a,.int .i64 x.b,.int .i64 x.c]++aG x.p)))
theorem AZ(z:jm)(x:dX):(bZ z x).size=33:=by kernel_rfl
theorem akw(z:jm)(x:dX):dG (bZ z x)=true:=by kernel_rfl
theorem Xq(z:jm)(x:dX):(bZ z x)[0]?=some (.int .u8 x.k.toNat):=by kernel_rfl
theorem Nq(z:jm)(x:dX):(bZ z x)[23]?=some (.string x.p.name):=by kernel_rfl
theorem Xr(z:jm)(x:dX):eG (bZ z x) 1 17=some (ae z.r x.d):=by kernel_rfl
theorem Xt(z:jm)(x:dX):eG (bZ z x) 18 2=some (ai z.t x.q):=by kernel_rfl
theorem akx(z:jm)(x:dX):eG (bZ z x) 20 3=some (mX x):=by kernel_rfl
theorem aky(z:jm)(x:dX):(bZ z x)[20]?=some (.int .i64 x.a):=by kernel_rfl
theorem akz(z:jm)(x:dX):(bZ z x)[21]?=some (.int .i64 x.b):=by kernel_rfl
theorem akA(z:jm)(x:dX):(bZ z x)[22]?=some (.int .i64 x.c):=by kernel_rfl
theorem akB(z:jm)(x:dX):eG (bZ z x) 23 10=some (aG x.p):=by kernel_rfl
attribute [irreducible] bZ
theorem akC(z:jm)(x:dX)(h:0<(bZ z x).size):(bZ z x)[0]'h=.int .u8 x.k.toNat:=by have e:=Xq z x;rw[Array.getElem?_eq_getElem h]at e;exact Option.some.inj e
theorem akD(z:jm)(x:dX)(h:23<(bZ z x).size):(bZ z x)[23]'h=.string x.p.name:=by have e:=Nq z x;rw[Array.getElem?_eq_getElem h]at e;exact Option.some.inj e
attribute [go_sem] akC akD AZ akw Xq aky akz akA Nq Xr Xt akx akB
structure o9(w:World)(z:jm)(x:dX):Prop where
 DT:bJ w z.r x.d
 A7:bz w z.t x.q
 Ih:x.p.name.size≤lim
theorem o9.later{w w':World}{z:jm}{x:dX}(h:o9 w z x)(hb:Below w.heap.size w w'):o9 w' z x:=⟨h.DT.later hb,h.A7.later hb,h.Ih⟩
def pg(w:World)(a:Option Addr)(l:List dX):Prop:=aV w 33 a l.length fun i cs=>∃x z,l[i]?=some x∧cs=bZ z x∧o9 w z x
theorem pg.later{w w':World}(h:Below w.heap.size w w'){a:Option Addr}{l:List dX}(x:pg w a l):pg w' a l:=aV.later h (fun _ _ ⟨d,r,y1,y2,y3⟩=>⟨d,r,y1,y2,y3.later h⟩) x
theorem iE.grow{S S':Nat→Prop}{es ps:Sl}{D:Db}{X:List EE}{w:World}(h:iE S es ps D X w)(hS:∀k,S' k→k<w.heap.size→S k):iE S' es ps D X w:=⟨h.dK.grow hS,h.dQ.grow hS,h.cap⟩
theorem akE{w:World}{b o:Nat}{z:jm}{x:dX}(h:row? w b o 33=some (bZ z x)):row? w b (o+1) 17=some (ae z.r x.d):=(Gj h (by omega)).trans (Xr z x)
theorem akF{w:World}{b o:Nat}{z:jm}{x:dX}(h:row? w b o 33=some (bZ z x)):row? w b (o+18) 2=some (ai z.t x.q):=(Gj h (by omega)).trans (Xt z x)
theorem akG{w:World}{b o:Nat}{z:jm}{x:dX}(h:row? w b o 33=some (bZ z x)):w.cell? ⟨b,o+23,none⟩=some (.string x.p.name):=(gJ h 23 (by omega)).trans (Nq z x)
theorem aV.Xu{w:World}{a:Option Addr}{l:List dX}(x:pg w a l)(i:Nat)(h:i<l.length):∃b o z,a=some ⟨b,o,none⟩∧row? w b (o+i*33) 33=some (bZ z l[i])∧o9 w z l[i]:=by
 obtain⟨b,o,v,h1,h2,d,r,h3,rfl,h4⟩:=x.2 i h
 rw[List.getElem?_eq_getElem h]at h3;cases h3
 exact⟨b,o,r,h1,h2,h4⟩
structure A8(D:Db)(X:List EE)(D':Db)(X':List EE):Prop where
 aF:D'.aF=D.aF
 s0:D.ay≤D'.ay
 s1:D'.ay≤D.ay+1
 len:X'.length≤X.length+1
 dQ:D'.ax.length≤D.ax.length+1
 sort:Sorted dw (fun q:ah=>q.name) D.ax→Sorted dw (fun q:ah=>q.name) D'.ax
theorem akH{D D':Db}{X X':List EE}{r:aN}{d:Entry}{no:Int}(h:kM D X r d no D' X'):A8 D X D' X':=by
 obtain⟨h1,h2,h3,h4,h5,-⟩:=aiL h
 exact⟨h2,h3,h4,h5,by rw[h1];omega,by rw[h1];exact id⟩
theorem akI{D D':Db}{X X':List EE}{q:az}{no:Int}(h:rM D X q no D' X'):A8 D X D' X':=by
 obtain⟨h1,h2,h3,h4,h5⟩:=ajQ h
 exact⟨h2,h3,h4,by omega,by rw[h1];omega,by rw[h1];exact id⟩
theorem akJ{D D':Db}{X X':List EE}{q:az}{f a b no:Int}(h:uk D X q f a b no D' X'):A8 D X D' X':=by
 obtain⟨h1,h2,h3,h4,h5⟩:=ajR h
 exact⟨h2,h3,h4,by omega,by rw[h1];omega,by rw[h1];exact id⟩
theorem akK{D D':Db}(X:List EE){q:ah}{no:Int}(hn:(D.ax.map (·.name)).Nodup)(h:mQ D q no D'):A8 D X D' X:=by
 obtain⟨h1,h2,h3,h4,h5⟩:=VZ h
 exact⟨h2,h3,h4,by omega,h5,aiS h hn⟩
theorem akL{D D':Db}(X:List EE){k:ByteArray}{no:Int}(h:qj D k no D'):A8 D X D' X:=by
 obtain⟨h1,h2,h3,h4,h5,h6⟩:=ajS h
 exact⟨h2,h3,h4,by omega,by omega,fun hs=>hs.sublist h6⟩
end Go.WW
namespace Go.Proofs.YtfieenjdcpjmgaaGreatDoor
open Go.RowKit Go.WW
theorem oz(n:Int)(w:World):Calls Tryz.prog 9 #[.int .i64 n] w fun e w'=>e=.returned (.int .i64 n)∧w=w':=by
 go_enter Tryz.func9,Tryz.ntmps9
 go_wp2_with fail
 go_ret
 exact⟨rfl,rfl⟩
theorem akM(w:World)(b o:Nat):(jS 52 (.pointer (some ⟨b,o,none⟩))).run Tryz.prog w=qE Tryz.prog 52 w b o (row? w b o 33):=uM Tryz.underlying52 rfl (by kernel_rfl) w b o
theorem akN(ρ:Operand→Value)(dst:Option Tmp)(x:Operand)(ty:TypeId)(pos:String)(after:Array Edge)(guard:Option (Nat×Bool)):execOp ρ {dst,op:=.load 52 x,type:=ty,pos,after,guard}=jS 52 (ρ x):=rfl
attribute [go_sem] akM
attribute [go_sem ↓] akN
theorem akO(w:World)(b o:Nat):(jS 48 (.pointer (some ⟨b,o,none⟩))).run Tryz.prog w=qE Tryz.prog 48 w b o (row? w b o 3):=uM Tryz.underlying48 rfl (by kernel_rfl) w b o
theorem akP(ρ:Operand→Value)(dst:Option Tmp)(x:Operand)(ty:TypeId)(pos:String)(after:Array Edge)(guard:Option (Nat×Bool)):execOp ρ {dst,op:=.load 48 x,type:=ty,pos,after,guard}=jS 48 (ρ x):=rfl
attribute [go_sem] akO
attribute [go_sem ↓] akP
theorem akQ(w:World)(b o:Nat)(cs:Array Value)(hn:cs.size=3)(h1:dG cs=true):(kN 48 (.pointer (some ⟨b,o,none⟩)) (.agg cs)).run Tryz.prog w=sJ Tryz.prog 48 w b o cs (aQ w b o 3):=wC (by kernel_rfl) w b o cs hn h1
theorem akR(ρ:Operand→Value)(dst:Option Tmp)(x y:Operand)(ty:TypeId)(pos:String)(after:Array Edge)(guard:Option (Nat×Bool)):execOp ρ {dst,op:=.store 48 x y,type:=ty,pos,after,guard}=kN 48 (ρ x) (ρ y):=rfl
attribute [go_sem] akQ
attribute [go_sem ↓] akR
structure iJ(S:Nat→Prop)(b n e p:Nat)(re:ByteArray)(es ps:Sl)(D:Db)(X:List EE)(N:Nat)(w:World):Prop where
 ex:∃NL E P,jB S b n e p re D.ay NL E P w∧fJ D X NL E P
 ref:iE S es ps D X w
 aF:D.aF=re
 lt:∀k,S k→k<w.heap.size
 sort:Sorted dw (fun q:ah=>q.name) D.ax
 d0:0≤D.ay
 d1:D.ay≤(N:Int)
 n1:X.length≤N
 n2:D.ax.length≤N
theorem bU.same{w w':World}{b n e p:Nat}{re:ByteArray}{s:Int}{N:List (ByteArray×Value)}{E:List EE}{P:List ah}(h:bU w b n e p re s N E P)(hs:∀k,aU b n e p k→w'.heap[k]?=w.heap[k]?):bU w' b n e p re s N E P:=
 ⟨(hs b (.inl rfl)).trans h.box,h.nm.at (hs n (.inr (.inl rfl))),h.em.at (hs e (.inr (.inr (.inl rfl)))),h.pm.at (hs p (.inr (.inr (.inr rfl)))),h.ne⟩
theorem jB.off{S T:Nat→Prop}{b n e p:Nat}{re:ByteArray}{s:Int}{NL:List (ByteArray×ByteArray)}{E:List EE}{P:List ah}{w w':World}(h:jB S b n e p re s NL E P w)(hb:But T w w')(hT:∀k,T k→S k)(hn:∀k,T k→¬aU b n e p k):jB S b n e p re s NL E P w':=
 ⟨h.db.same fun k hk=>hb.block k (h.lt k hk) fun ht=>hn k ht hk,fun x hx=>(h.keep x hx).on (hb.mono hT),h.sub⟩
theorem jB.grow{S S':Nat→Prop}{b n e p:Nat}{re:ByteArray}{s:Int}{NL:List (ByteArray×ByteArray)}{E:List EE}{P:List ah}{w:World}(h:jB S b n e p re s NL E P w)(hS:∀k,S' k→k<w.heap.size→S k)(hsub:∀k,S k→S' k):jB S' b n e p re s NL E P w:=
 ⟨h.db,fun x hx=>(h.keep x hx).grow hS,fun k hk=>hsub k (h.sub k hk)⟩
def Xv(S:Nat→Prop)(b n e p:Nat)(re:ByteArray)(N:Nat)(w:World)(z:Ending)(w':World):Prop:=
 ∃S' es' ps' D' X',z=.returned (.tuple #[.agg (au es' ps' D'),.bool true])∧But (aU b n e p) w w'∧iJ S' b n e p re es' ps' D' X' (N+1) w'∧(∀k,S' k→S k∨w.heap.size≤k)∧(∀k,S k→S' k)
theorem akS{S S1:Nat→Prop}{b n e p:Nat}{re:ByteArray}{es es' ps ps':Sl}{D D':Db}{X X':List EE}{N:Nat}{w w3 w9:World}{mV:List (ByteArray×ByteArray)}{E':List EE}{P':List ah}{z:Ending}(h:iJ S b n e p re es ps D X N w)(hz:z=.returned (.tuple #[.agg (au es' ps' D'),.bool true]))
  (hst:A8 D X D' X') (hP:jB S1 b n e p re (D.ay+(D'.ay-D.ay)) mV E' P' w3) (hR:fJ D' X' mV E' P') (hF:iE S1 es' ps' D' X' w9) (hS1:∀k,S1 k→S k∨w.heap.size≤k) (akT:∀k,S k→S1 k) (hlt:∀k,S1 k→k<w9.heap.size)
  {T:Nat→Prop} (hb:But T w3 w9) (hT:∀k,T k→S1 k) (hTw:∀k,T k→w.heap.size≤k) (hB:But (aU b n e p) w w9):Xv S b n e p re N w z w9:=by
 obtain⟨NL,E,P,h1,-⟩:=h.ex
 have e1:D.ay+(D'.ay-D.ay)=D'.ay:=by omega
 rw[e1]at hP
 have:=hst.s0;have:=hst.s1;have:=hst.len;have:=hst.dQ;have:=h.d0;have:=h.d1;have:=h.n1;have:=h.n2
 exact⟨S1,es',ps',D',X',hz,hB,⟨⟨mV,E',P',hP.off hb hT fun k hk hd=>by have:=h1.lt k hd;have:=hTw k hk;omega,hR⟩,hF,hst.aF.trans h.aF,hlt,hst.sort h.sort,by omega,by push_cast;omega,by omega,by omega⟩,hS1,akT⟩
end Go.Proofs.YtfieenjdcpjmgaaGreatDoor
