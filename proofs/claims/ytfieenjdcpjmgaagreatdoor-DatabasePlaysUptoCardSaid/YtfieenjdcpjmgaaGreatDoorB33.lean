/- A part of the proof. -/
import Derived.Test.YtfieenjdcpjmgaaGreatDoorB32
import Derived.Test.YtfieenjdcpjmgaaGreatDoorB02
import Derived.Test.YtfieenjdcpjmgaaGreatDoorB24
import Derived.Test.YtfieenjdcpjmgaaGreatDoorB12
import Derived.Test.YtfieenjdcpjmgaaGreatDoorB27
import Derived.Test.YtfieenjdcpjmgaaGreatDoorB19
import Derived.Test.YtfieenjdcpjmgaaGreatDoorB20
import Derived.Test.YtfieenjdcpjmgaaGreatDoorB10
import Derived.Test.YtfieenjdcpjmgaaGreatDoorB06
set_option maxRecDepth 100000
set_option maxHeartbeats 16000000
namespace Go.WW
open Go.RowKit
section
variable {P:Program} {ops:Array Oper} {st st2:Oper→Bool} {S:World→Prop} {Q:Act→World→Prop}
structure aae(st st2:Oper→Bool)(ops:Array Oper)(m0:Array (List Nat))(c0 x p:Nat):Prop where
 aok:∀j oj,ops[j]?=some oj→∀i∈m0.getD j [],∃e∈oj.after,Region.binds .any e=true∧(e.on=i∨i∈m0.getD e.on [])
 ahead:∀k,k<c0→k∈m0.getD c0 []
 behind:∀i oi,ops[i]?=some oi→c0<i→i≠x→c0∈m0.getD i []
 pair:∀i oi,ops[i]?=some oi→i≤c0→∀k,k<i→∀ok,ops[k]?=some ok→k∈m0.getD i []∨(ok.apart ops oi=true∧(st ok=true∨st oi=true))
 PQ:∀ox,ops[x]?=some ox→st ox=true∧st2 ox=true
 xa:∀k ok,ops[k]?=some ok→∀ox,ops[x]?=some ox→k<p→k∈m0.getD x []∨ok.apart ops ox=true
 xb:∀k ok,ops[k]?=some ok→∀ox,ops[x]?=some ox→p≤k→k≤c0→ox.apart ops ok=true
 xc:∀k ok,ops[k]?=some ok→∀ox,ops[x]?=some ox→c0<k→k<x→ox.apart ops ok=true
 ord:p≤c0∧c0<x
theorem aol{m0:Array (List Nat)}(hp:∀j oj,ops[j]?=some oj→∀i∈m0.getD j [],∃e∈oj.after,Region.binds .any e=true∧(e.on=i∨i∈m0.getD e.on []))(hback:∀j oj,ops[j]?=some oj→∀e∈oj.after,Region.binds .any e=true→e.on<j){listed:Array Bool}
  (hdown:∀k o,ops[k]?=some o→listed.getD k false=true→∀e∈o.after,Region.binds .any e=true→listed.getD e.on false=true) :
  ∀(j:Nat) (oj:Oper),ops[j]?=some oj→(∀e∈oj.after,Region.binds .any e=true→listed.getD e.on false=true)→∀i∈m0.getD j [],listed.getD i false=true:=by
 intro j
 induction j using Nat.strongRecOn with
 |_ j ih=>
  intro oj hj hall i hi
  obtain⟨e,he,hb,hor⟩:=hp j oj hj i hi
  rcases hor with rfl|hor
  ·exact hall e he hb
  ·have hlt:=hback j oj hj e he hb
   have hjs:j<ops.size:=(Array.getElem?_eq_some_iff.1 hj).1
   have hoe:ops[e.on]?=some (ops[e.on]'(by omega)):=by simp
   exact ih e.on hlt _ hoe (hdown _ _ hoe (hall e he hb)) i hor
theorem aaf{o:Oper}(ho:∀cs b,o.op≠.select cs b)(hst:st o=true):∀(L1 L2:List Oper),(∀y∈L1,(∀cs b,y.op≠.select cs b)∧o.apart ops y=true)→
  ∀(a:Act) (w:World),S w→aH P ops st S Q (o::(L1++L2)) a w→aH P ops st S Q (L1++o::L2) a w
 | [],_,_,_,_,_,h=>h
 |y::L1,L2,hall,a,w,hS,h=>by
  have hy:=hall y (by simp)
  have h1:=Ac ho hy.1 hy.2 (.inl hst) h
  exact Aa hS (fun a' w' hS' hh=>aaf ho hst L1 L2 (fun z hz=>hall z (by simp[hz])) a' w' hS' hh) h1
def w1(c0 x p:Nat)(L:List Nat):List Nat:=L.filter (fun k=>decide (k<p))++(L.filter (fun k=>decide (k=x))++L.filter (fun k=>decide (p≤k)&&decide (k≤c0)))
def rest(c0 x:Nat)(L:List Nat):List Nat:=L.filter fun k=>decide (c0<k)&&decide (k≠x)
def QP(P:Program)(ops:Array Oper)(st2:Oper→Bool)(S1:World→Prop)(Q:Act→World→Prop)(R:List Nat)(a:Act)(w:World):Prop:=
 ∃S2:World→Prop,(∀v,S2 v→S1 v)∧S2 w∧aH P ops st2 S2 Q (R.filterMap (ops[·]?)) a w
theorem aom{m m0:Array (List Nat)}{c0 x p:Nat}(hok:qM st2 ops m)(pU:aae st st2 ops m0 c0 x p){Q':Exit→Act→World→Prop}(hQ:∀a w,Q a w→Q' .normal a w) :
  ∀(n:Nat) (L:List Nat) (listed:Array Bool) (a:Act) (w:World),L.length=n→L.Pairwise (· < ·)→listed.size=ops.size→(∀j,j∈L↔j<ops.size∧listed.getD j true=false)→
   (∀k o,ops[k]?=some o→listed.getD k false=true→∀e∈o.after,Region.binds .any e=true→listed.getD e.on false=true)→
   c0∈L→S w→aH P ops st S (QP P ops st2 S Q (rest c0 x L)) ((w1 c0 x p L).filterMap (ops[·]?)) a w→wpAny P .any ops Q' n listed a w:=by
 intro n
 induction n with
 |zero=>
  intro L listed a w hn _ _ _ _ hc
  have:L=[]:=List.eq_nil_of_length_eq_zero hn
  subst this
  cases hc
 |succ n ih=>
  intro L listed a w hn hsort hsz hL hdown hc hS h
  refine⟨fun hr=>?_,fun i hi=>?_⟩
  ·exfalso
   cases L with
   |nil=>simp at hn
   |cons j L=>
    obtain⟨hj,hjl⟩:=(hL j).1 (by simp)
    have hoj:ops[j]?=some ops[j]:=by simp[hj]
    have:j∈Region.ready .any ops listed:=by
     refine mem_ready.2 ⟨hjl,_,hoj,fun e he hb=>?_⟩
     have hlt:=hok.back j _ hoj e he hb
     have hnot:e.on∉j::L:=by
      intro hmem
      rcases List.mem_cons.1 hmem with h1|h1
      ·omega
      ·have:=(List.pairwise_cons.1 hsort).1 _ h1;omega
     have h2:listed.getD e.on true≠false:=fun hf=>hnot ((hL e.on).2 ⟨by omega,hf⟩)
     have hes:e.on<listed.size:=by omega
     simp[hes]at h2 ⊢;exact h2
    rw[hr]at this;cases this
  ·obtain⟨h0,o,ho,hall⟩:=mem_ready.1 hi
   have his:i<ops.size:=(Array.getElem?_eq_some_iff.1 ho).1
   have hiL:i∈L:=(hL i).2 ⟨his,h0⟩
   have hnl:∀k∈L,¬listed.getD k false=true:=fun k hk hf=>by
    have hkl:=((hL k).1 hk).2
    rw[sV hf]at hkl;cases hkl
   obtain⟨L1,L2,rfl⟩:=List.append_of_mem hiL
   have dN:=List.pairwise_append.1 hsort
   have hlt1:∀y∈L1,y<i:=fun y hy=>dN.2.2 y hy i (by simp)
   have hgt2:∀y∈L2,i<y:=fun y hy=>(List.pairwise_cons.1 dN.2.1).1 y hy
   have xg:(L1++L2).Pairwise (· < ·):=List.pairwise_append.2 ⟨dN.1,(List.pairwise_cons.1 dN.2.1).2,fun y hy z hz=>dN.2.2 y hy z (by simp[hz])⟩
   have hlen:(L1++L2).length=n:=by simp at hn ⊢;omega
   have hsz':(listed.setIfInBounds i true).size=ops.size:=by simpa using hsz
   have hmem':∀j,j∈L1++L2↔j<ops.size∧(listed.setIfInBounds i true).getD j true=false:=by
    intro j
    by_cases hji:j=i
    ·subst hji
     constructor
     ·intro hm
      exfalso
      rcases List.mem_append.1 hm with h1|h1
      ·have:=hlt1 _ h1;omega
      ·have:=hgt2 _ h1;omega
     ·rintro⟨_,hf⟩
      have:j<listed.size:=by omega
      simp[this]at hf
    ·rw[getD_set_ne true (Ne.symm hji),←hL j]
     simp[hji]
   have Jh:∀k o,ops[k]?=some o→(listed.setIfInBounds i true).getD k false=true→∀e∈o.after,Region.binds .any e=true→(listed.setIfInBounds i true).getD e.on false=true:=by
    intro k ok hk hkl e he hb
    by_cases hki:k=i
    ·subst hki
     rw[ho]at hk;cases hk
     exact getD_set_true (hall e he hb)
    ·rw[getD_set_ne false (Ne.symm hki)]at hkl
     exact getD_set_true (hdown k ok hk hkl e he hb)
   have hsel:=(Region.noSelect_spec hok.jl i o · · ho)
   have Ji:∀k∈m0.getD i [],k∈L1++i::L2→False:=fun k hk ou=>hnl k ou (aol pU.aok hok.back hdown i o ho hall k hk)
   have single:∀(Qs:Act→World→Prop) (R:List Oper) (K:Act→World→Prop),aH P ops st S Qs (o::R) a w→(∀a' w',S w'→aH P ops st S Qs R a' w'→K a' w')→wpOp P ops Q' i K a w:=by
    intro Qs R K bY hrest
    unfold wpOp
    simp only[ho]
    rw[bJ]at bY
    split
    ·rename_i hw
     rw[if_pos hw]at bY
     refine .inl ?_
     by_cases hs:st o=true
     ·rw[if_pos hs]at bY
      obtain⟨v,hv,hh⟩:=bY
      unfold Oper.wp
      rw[hv w hS]
      exact hrest _ _ hS hh
     ·rw[if_neg hs]at bY
      exact qL (Oper.wp_mono (fun a' w' hh=>hrest a' w' hh.1 hh.2) bY)
    ·rename_i hw
     rw[if_neg hw]at bY
     exact hrest _ _ hS bY
   have aon:∀y∈L1++L2,y∈L1++i::L2:=fun y hy=>by
    rcases List.mem_append.1 hy with h1|h1
    ·simp[h1]
    ·simp[h1]
   have aag:∀y∈L1++i::L2,y≠i→y∈L1++L2:=fun y hy hne=>by
    rcases List.mem_append.1 hy with h1|h1
    ·simp[h1]
    ·rcases List.mem_cons.1 h1 with h2|h2
     ·exact absurd h2 hne
     ·simp[h2]
   have hnot:i∉L1++L2:=fun hm=>by
    rcases List.mem_append.1 hm with h1|h1
    ·have:=hlt1 _ h1;omega
    ·have:=hgt2 _ h1;omega
   obtain⟨hpc,hcx⟩:=pU.ord
   by_cases hix:i=x
   ·subst hix
    have hr:rest c0 i (L1++i::L2)=rest c0 i (L1++L2):=by simp[rest,List.filter_append]
    have hX0:(L1++L2).filter (fun k=>decide (k=i))=[]:=List.filter_eq_nil_iff.2 fun y hy=>by have:y≠i:=fun e=>hnot (e▸hy);simpa using this
    have hX1:(L1++i::L2).filter (fun k=>decide (k=i))=[i]:=by
     have h1:L1.filter (fun k=>decide (k=i))=[]:=List.filter_eq_nil_iff.2 fun y hy=>by have:=hlt1 y hy;simp;omega
     have h2:L2.filter (fun k=>decide (k=i))=[]:=List.filter_eq_nil_iff.2 fun y hy=>by have:=hgt2 y hy;simp;omega
     rw[List.filter_append,List.filter_cons_of_pos (by simp),h1,h2,List.nil_append]
    have e1:(L1++i::L2).filter (fun k=>decide (k<p))=(L1++L2).filter (fun k=>decide (k<p)):=by simp[List.filter_append,show ¬i<p by omega]
    have e2:(L1++i::L2).filter (fun k=>decide (p≤k)&&decide (k≤c0))=(L1++L2).filter (fun k=>decide (p≤k)&&decide (k≤c0)):=by simp[List.filter_append,show ¬i≤c0 by omega]
    rw[hr,w1,hX1,e1,e2,List.filterMap_append,List.singleton_append,List.filterMap_cons_some ho]at h
    have hf:=lV hsel _ (fun y hy=>by
     obtain⟨k,jK,hoy⟩:=List.mem_filterMap.1 hy
     have hk:=List.mem_filter.1 jK
     have hkp:k<p:=by simpa using hk.2
     refine⟨(Region.noSelect_spec hok.jl k y · · hoy),?_,.inr (pU.PQ o ho).1⟩
     rcases pU.xa k y hoy o ho hkp with h1|h1
     ·exact(Ji k h1 (aon k hk.1)).elim
     ·exact h1) a w hS h
    refine single _ _ _ hf (fun a' w' hS' hh=>ih (L1++L2) _ a' w' hlen xg hsz' hmem' Jh (aag c0 hc (by omega)) hS' ?_)
    rw[w1,hX0,List.nil_append,List.filterMap_append]
    exact hh
   ·have hic:i≤c0:=Classical.byContradiction fun hn=>Ji c0 (pU.behind i o ho (by omega) hix) hc
    have hr:rest c0 x (L1++i::L2)=rest c0 x (L1++L2):=by simp[rest,List.filter_append,show ¬c0<i by omega]
    have eX:(L1++i::L2).filter (fun k=>decide (k=x))=(L1++L2).filter (fun k=>decide (k=x)):=by simp[List.filter_append,hix]
    have PR:∀k y,ops[k]?=some y→k∈L1→(∀cs b,y.op≠.select cs b)∧y.apart ops o=true∧(st y=true∨st o=true):=fun k y hoy hk=>by
     refine⟨(Region.noSelect_spec hok.jl k y · · hoy),?_⟩
     rcases pU.pair i o ho hic k (hlt1 k hk) y hoy with h1|h1
     ·exact(Ji k h1 (by simp[hk])).elim
     ·exact h1
    have bY:aH P ops st S (QP P ops st2 S Q (rest c0 x (L1++L2))) (o::(w1 c0 x p (L1++L2)).filterMap (ops[·]?)) a w:=by
     rw[hr]at h
     by_cases hip:i<p
     ·have e1:(L1++i::L2).filter (fun k=>decide (k<p))=L1.filter (fun k=>decide (k<p))++i::L2.filter (fun k=>decide (k<p)):=by simp[List.filter_append,hip]
      have e2:(L1++i::L2).filter (fun k=>decide (p≤k)&&decide (k≤c0))=(L1++L2).filter (fun k=>decide (p≤k)&&decide (k≤c0)):=by simp[List.filter_append,show ¬p≤i by omega]
      rw[w1,e1,e2,eX,List.append_assoc,List.cons_append,List.filterMap_append,List.filterMap_cons_some ho]at h
      have hf:=lV hsel _ (fun y hy=>by
       obtain⟨k,jK,hoy⟩:=List.mem_filterMap.1 hy
       exact PR k y hoy (List.mem_filter.1 jK).1) a w hS h
      rw[←List.filterMap_append,←List.append_assoc,←List.filter_append]at hf
      exact hf
     ·have e1:(L1++i::L2).filter (fun k=>decide (k<p))=(L1++L2).filter (fun k=>decide (k<p)):=by simp[List.filter_append,hip]
      have e2:(L1++i::L2).filter (fun k=>decide (p≤k)&&decide (k≤c0))=L1.filter (fun k=>decide (p≤k)&&decide (k≤c0))++i::L2.filter (fun k=>decide (p≤k)&&decide (k≤c0)):=by
       simp[List.filter_append,hic,show p≤i by omega]
      rw[w1,e1,e2,eX,←List.append_assoc,←List.append_assoc,List.filterMap_append,List.filterMap_cons_some ho]at h
      have hf:=lV hsel _ (fun y hy=>by
       obtain⟨k,jK,hoy⟩:=List.mem_filterMap.1 hy
       rcases List.mem_append.1 jK with h1|h1
       ·rcases List.mem_append.1 h1 with h2|h2
        ·have hk:=List.mem_filter.1 h2
         have hkp:k<p:=by simpa using hk.2
         have hk1:k∈L1:=by
          rcases List.mem_append.1 hk.1 with h3|h3
          ·exact h3
          ·have:=hgt2 k h3;omega
         exact PR k y hoy hk1
        ·have hk:=List.mem_filter.1 h2
         have hkx:k=x:=by simpa using hk.2
         subst hkx
         exact⟨(Region.noSelect_spec hok.jl k y · · hoy),pU.xb i o ho y hoy (by omega) hic,.inl (pU.PQ y hoy).1⟩
       ·exact PR k y hoy (List.mem_filter.1 h1).1) a w hS h
      rw[←List.filterMap_append,List.append_assoc,List.append_assoc,←List.filter_append]at hf
      exact hf
    by_cases hi0:i=c0
    ·subst hi0
     have hL1:L1=[]:=by
      cases L1 with
      |nil=>rfl
      |cons k L1=>exact(Ji k (pU.ahead k (hlt1 k (by simp))) (by simp)).elim
     subst hL1
     rw[List.nil_append]at *
     have hw:w1 i x p L2=L2.filter (fun k=>decide (k=x)):=by
      have h1:L2.filter (fun k=>decide (k<p))=[]:=List.filter_eq_nil_iff.2 fun y hy=>by have:=hgt2 y hy;simp;omega
      have h2:L2.filter (fun k=>decide (p≤k)&&decide (k≤i))=[]:=List.filter_eq_nil_iff.2 fun y hy=>by have:=hgt2 y hy;simp;omega
      rw[w1,h1,h2,List.nil_append,List.append_nil]
     rw[hw]at bY
     refine single _ _ _ bY (fun a' w' hS' hh=>?_)
     by_cases hxL:x∈L2
     ·obtain⟨R1,R2,rfl⟩:=List.append_of_mem hxL
      have hsR:=List.pairwise_append.1 xg
      have hr1:∀y∈R1,y<x:=fun y hy=>hsR.2.2 y hy x (by simp)
      have hr2:∀y∈R2,x<y:=fun y hy=>(List.pairwise_cons.1 hsR.2.1).1 y hy
      have hX:(R1++x::R2).filter (fun k=>decide (k=x))=[x]:=by
       have h1:R1.filter (fun k=>decide (k=x))=[]:=List.filter_eq_nil_iff.2 fun y hy=>by have:=hr1 y hy;simp;omega
       have h2:R2.filter (fun k=>decide (k=x))=[]:=List.filter_eq_nil_iff.2 fun y hy=>by have:=hr2 y hy;simp;omega
       rw[List.filter_append,List.filter_cons_of_pos (by simp),h1,h2,List.nil_append]
      have hR:rest i x (R1++x::R2)=R1++R2:=by
       have h1:R1.filter (fun k=>decide (i<k)&&decide (k≠x))=R1:=List.filter_eq_self.2 fun y hy=>by have:=hr1 y hy;have:=hgt2 y (by simp[hy]);simp;omega
       have h2:R2.filter (fun k=>decide (i<k)&&decide (k≠x))=R2:=List.filter_eq_self.2 fun y hy=>by have:=hr2 y hy;have:=hgt2 y (by simp[hy]);simp;omega
       rw[rest,List.filter_append,List.filter_cons_of_neg (by simp),h1,h2]
      have hxs:x<ops.size:=((hL x).1 (by simp)).1
      obtain⟨ox,hox⟩:∃ox,ops[x]?=some ox:=⟨ops[x],by simp[hxs]⟩
      have hxl:=pU.PQ ox hox
      rw[hX,hR,List.filterMap_cons_some hox,List.filterMap_nil,bJ]at hh
      have hgo:∃S2:World→Prop,(∀v,S2 v→S v)∧S2 w'∧aH P ops st2 S2 Q (ox::(R1++R2).filterMap (ops[·]?)) a' w':=by
       split at hh
       ·rename_i hwn
        rw[if_pos hxl.1]at hh
        obtain⟨v,hv,S2,h1,h2,h3⟩:=hh
        refine⟨S2,h1,h2,?_⟩
        rw[bJ,if_pos hwn,if_pos hxl.2]
        exact⟨v,fun u hu=>hv u (h1 u hu),h3⟩
       ·rename_i hwn
        obtain⟨S2,h1,h2,h3⟩:=hh
        refine⟨S2,h1,h2,?_⟩
        rw[bJ,if_neg hwn]
        exact h3
      obtain⟨S2,h1,h2,h3⟩:=hgo
      rw[List.filterMap_append]at h3
      have h4:=aaf (Region.noSelect_spec hok.jl x ox · · hox) hxl.2 _ _ (fun y hy=>by
       obtain⟨k,hk,hoy⟩:=List.mem_filterMap.1 hy
       exact⟨(Region.noSelect_spec hok.jl k y · · hoy),pU.xc k y hoy ox hox (hgt2 k (by simp[hk])) (hr1 k hk)⟩) a' w' h2 h3
      exact yf (S:=S2) hok hQ n (R1++x::R2) _ a' w' hlen xg hsz' hmem' Jh h2 (by rw[List.filterMap_append,List.filterMap_cons_some hox];exact h4)
     ·have hX:L2.filter (fun k=>decide (k=x))=[]:=List.filter_eq_nil_iff.2 fun y hy=>by have:y≠x:=fun e=>hxL (e▸hy);simpa using this
      have hR:rest i x L2=L2:=List.filter_eq_self.2 fun y hy=>by have:=hgt2 y hy;have:y≠x:=fun e=>hxL (e▸hy);simp;omega
      rw[hX,hR]at hh
      obtain⟨S2,h1,h2,h3⟩:=hh
      exact yf (S:=S2) hok hQ n L2 _ a' w' hlen xg hsz' hmem' Jh h2 h3
    ·exact single _ _ _ bY (fun a' w' hS' hh=>ih (L1++L2) _ a' w' hlen xg hsz' hmem' Jh (aag c0 hc (Ne.symm hi0)) hS' hh)
def PS(st st2:Oper→Bool)(ops:Array Oper)(c0 x p:Nat):Bool:=
 let m0:=nG (fun _=>false) ops
 decide (p≤c0)&&decide (c0<x)&&(List.range c0).all (fun k=>(m0.getD c0 []).contains k)&&
 (match ops[x]? with
  |none=>true
  |some ox=>st ox&&st2 ox&&(List.range ops.size).all fun k=>match ops[k]? with
   |none=>true
   |some ok=>(!decide (k<p) || (m0.getD x []).contains k || ok.apart ops ox)&&(!(decide (p≤k)&&decide (k≤c0)) || ox.apart ops ok)&&(!(decide (c0<k)&&decide (k<x)) || ox.apart ops ok))&&
 (List.range ops.size).all fun j=>match ops[j]? with
  |none=>true
  |some oj=>
   (m0.getD j []).all (fun i=>oj.after.toList.any fun e=>Region.binds .any e&&(e.on == i || (m0.getD e.on []).contains i))&&
   (!decide (c0<j) || j == x || (m0.getD j []).contains c0)&&
   (!decide (j≤c0) || (List.range j).all fun k=>match ops[k]? with
    |none=>true
    |some ok=>(m0.getD j []).contains k || (ok.apart ops oj&&(st ok || st oj)))
theorem aoo{c0 x p:Nat}(h:PS st st2 ops c0 x p=true):aae st st2 ops (nG (fun _=>false) ops) c0 x p:=by
 unfold PS at h
 simp only[Bool.and_eq_true,List.all_eq_true,List.mem_range,decide_eq_true_eq]at h
 obtain⟨⟨⟨⟨hp,hc⟩,ha⟩,hx⟩,h⟩:=h
 have lt:∀{j:Nat} {oj:Oper},ops[j]?=some oj→j<ops.size:=fun hj=>(Array.getElem?_eq_some_iff.1 hj).1
 have hX:∀ox,ops[x]?=some ox→(st ox=true∧st2 ox=true)∧∀k ok,ops[k]?=some ok→((k<p→k∈(nG (fun _=>false) ops).getD x []∨ok.apart ops ox=true)∧(p≤k→k≤c0→ox.apart ops ok=true))∧(c0<k→k<x→ox.apart ops ok=true):=by
  intro ox hox
  simp only[hox,Bool.and_eq_true,List.all_eq_true,List.mem_range]at hx
  obtain⟨h1,h2⟩:=hx
  refine⟨h1,fun k ok hk=>?_⟩
  have h3:=h2 k (lt hk)
  simp only[hk,Bool.and_eq_true,Bool.or_eq_true,Bool.not_eq_true',decide_eq_false_iff_not,List.contains_iff_mem,Bool.and_eq_false_iff]at h3
  obtain⟨⟨h4,h5⟩,h6⟩:=h3
  refine⟨⟨fun hkp=>?_,fun g1 g2=>?_⟩,fun g1 g2=>?_⟩
  ·rcases h4 with(h4|h4)|h4
   ·exact absurd hkp h4
   ·exact .inl h4
   ·exact .inr h4
  ·rcases h5 with(h5|h5)|h5
   ·exact absurd g1 h5
   ·exact absurd g2 h5
   ·exact h5
  ·rcases h6 with(h6|h6)|h6
   ·exact absurd g1 h6
   ·exact absurd g2 h6
   ·exact h6
 have hJ:∀j oj,ops[j]?=some oj→(∀i∈(nG (fun _=>false) ops).getD j [],∃e∈oj.after,Region.binds .any e=true∧(e.on=i∨i∈(nG (fun _=>false) ops).getD e.on []))∧(c0<j→j≠x→c0∈(nG (fun _=>false) ops).getD j [])∧(j≤c0→∀k,k<j→∀ok,ops[k]?=some ok→k∈(nG (fun _=>false) ops).getD j []∨(ok.apart ops oj=true∧(st ok=true∨st oj=true))):=by
  intro j oj hj
  have hh:=h j (lt hj)
  simp only[hj,Bool.and_eq_true,List.all_eq_true]at hh
  obtain⟨⟨h1,h2⟩,h3⟩:=hh
  refine⟨fun i hi=>?_,fun g1 g2=>?_,fun g1 k hk ok hok=>?_⟩
  ·have:=h1 i hi
   simp only[List.any_eq_true,Bool.and_eq_true,Bool.or_eq_true,beq_iff_eq,List.contains_iff_mem]at this
   obtain⟨e,he,hb,hor⟩:=this
   exact⟨e,by simpa using he,hb,hor⟩
  ·simp only[Bool.or_eq_true,Bool.not_eq_true',decide_eq_false_iff_not,beq_iff_eq,List.contains_iff_mem]at h2
   rcases h2 with(h2|h2)|h2
   ·exact absurd g1 h2
   ·exact absurd h2 g2
   ·exact h2
  ·simp only[Bool.or_eq_true,Bool.not_eq_true',decide_eq_false_iff_not,List.all_eq_true,List.mem_range]at h3
   rcases h3 with h3|h3
   ·exact absurd g1 h3
   ·have h4:=h3 k hk
    simp only[hok,Bool.or_eq_true,Bool.and_eq_true,List.contains_iff_mem]at h4
    exact h4
 exact⟨fun j oj hj=>(hJ j oj hj).1,fun k hk=>by have:=ha k hk;simpa using this,fun i oi hi=>(hJ i oi hi).2.1,fun i oi hi=>(hJ i oi hi).2.2,fun ox hox=>(hX ox hox).1,fun k ok hk ox hox=>((hX ox hox).2 k ok hk).1.1,fun k ok hk ox hox=>((hX ox hox).2 k ok hk).1.2,fun k ok hk ox hox=>((hX ox hox).2 k ok hk).2,hp,hc⟩
theorem aop{id:Nat}{Q':Exit→Act→World→Prop}{a:Act}{w:World}{l:List Oper}(S:World→Prop)(st st2:Oper→Bool)(c0 x p:Nat)(i1 i2:List Nat)(hm:P.follows .mixedOrders=true)(hB:lW st2 l.toArray=true)(pU:PS st st2 l.toArray c0 x p=true)(hc:c0<l.length)
  (h1:w1 c0 x p (List.range l.toArray.size)=i1) (h2:rest c0 x (List.range l.toArray.size)=i2) (hS:S w.drew)
  (h:aH P l.toArray st S (fun a' w'=>∃S2:World→Prop,(∀v,S2 v→S v)∧S2 w'∧aH P l.toArray st2 S2 (fun a' w'=>Q' .normal a' w') (pick l i2) a' w') (pick l i1) a w.drew):(Code.region id l.toArray true).wp P Q' a w:=by
 refine wp_region_any hm ?_
 refine aom (P:=P) (S:=S) (Q:=fun a' w'=>Q' .normal a' w') (yc hB) (aoo pU) (Q':=Q') (fun _ _ h=>h) l.toArray.size (List.range l.toArray.size) (Array.replicate l.toArray.size false) a w.drew
  (by simp) List.pairwise_lt_range (by simp) (by intro j;simp;intro h;simp[h]) (by intro k o hk hkl;exfalso;rw[Array.getD_eq_getD_getElem?,Array.getElem?_replicate]at hkl;split at hkl<;>simp at hkl) (List.mem_range.2 (by simpa using hc)) hS ?_
 rw[h1,h2,←Gy]
 refine Jg (fun a' w' _ hb=>?_) _ a w.drew hS h
 obtain⟨S2,g1,g2,g3⟩:=hb
 exact⟨S2,g1,g2,by rw[←Gy];exact g3⟩
end
end Go.WW
namespace Go.WW
open Go.RowKit
section
variable {P:Program} {ops:Array Oper} {S:World→Prop} {Q:Act→World→Prop} {n:Nat}
def wE(n:Nat)(o:Oper):Bool:=looks o&&!(o.dst == some n)
theorem aoq{o:Oper}(h:wE n o=true):looks o=true:=by unfold wE at h;simp at h;exact h.1
theorem PT{o:Oper}{rest:List Oper}{a:Act}{w:World}(hw:Region.wanted o (yielded ops a.tmps)=true)(hs:wE n o=true)
  (h:∀K:Act→Prop,(∀a',aH P ops (wE n) S Q rest a' w→K a')→o.quiet P a S K):aH P ops (wE n) S Q (o::rest) a w:=by
 rw[bJ,if_pos hw,if_pos hs]
 obtain⟨v,hv,hh⟩:=h _ (fun _ x=>x)
 refine⟨v,fun w' hw'=>?_,hh⟩
 have:=hv w' hw'
 unfold Oper.quietAt at this
 rcases BZ (P:=P) (aoq hs) a.eval w' with⟨u,w'',e⟩|⟨x,w'',e⟩
 ·rw[e]at this ⊢
  obtain⟨rfl,rfl⟩:=this
  rfl
 ·rw[e]at this
  exact this.elim
theorem aai{o:Oper}{rest:List Oper}{a:Act}{w:World}(hw:Region.wanted o (yielded ops a.tmps)=true)(hs:wE n o=false)
  (h:∀K:Act→World→Prop,(∀a' w',S w'→aH P ops (wE n) S Q rest a' w'→K a' w')→o.wp P a w K never):aH P ops (wE n) S Q (o::rest) a w:=by
 rw[bJ,if_pos hw,if_neg (by simp[hs])]
 exact h _ (fun _ _ x y=>⟨x,y⟩)
end
end Go.WW
namespace Go.Proofs.YtfieenjdcpjmgaaGreatDoor
open Go.RowKit Go.WW
theorem aor(S:Nat→Prop)(b n e p:Nat)(re:ByteArray)(es ps:Sl)(D:Db)(X:List EE)(N:Nat)(w:World)(h:iR S b n e p re es ps D X N w)(hN:N≤60)(hx:X.length≤12)(hp:D.au.length≤12)(ht:wz Tryz.prog w)(hre:¬re=⟨#[]⟩)(hsz:re.size≤1000) :
  Calls Tryz.prog 14 #[.pointer (some ⟨b,0,none⟩),.agg (ak es ps D)] w fun z w'=>z=.returned (.bool true)∧Below w.heap.size w w':=by
 have hB:Below w.heap.size w (w.alloc (.cells (ak es ps D) 32)):=aj (Below.refl _ _) _
 have h3:=World.alloc_heap_new w (.cells (ak es ps D) 32)
 have HH:=Lib.hid (h.later hB)
 have HT:=Lib.hid (kG ht hB)
 obtain⟨NL,E,P,hP,hR⟩:=(h.later hB).ex
 have hEl:E.length=D.entries.length:=by rw[hR.eq,List.length_map];have:=hR.perm.length_eq;simpa using this
 have BM:=Lib.hid hP.db
 have hrr:D.aG=re:=h.aG
 have HB:=Lib.hid hB
 clear h hB hP hR ht
 go_enter Tryz.func14,Tryz.ntmps14
 go_wp2_with fail
 generalize (w.alloc (.cells (ak es ps D) 32))=U at *
 obtain⟨uc,uf,ur,ul⟩:=aB h3
 obtain⟨S1,hS1⟩:∃S1,S1=ByteArray.mk (pR D).toArray:=⟨_,rfl⟩
 have jy:=Lib.hid hS1
 clear hS1
 have hbq:(S1.toList == S1.toList)=true:=by simp
 have hbr:(re.toList == D.aG.toList)=true:=by rw[hrr];simp
 refine aop (since U) looks (wE 31) 22 24 21 [0,1,2,3,4,5,6,7,8,9,10,11,12,13,14,15,16,17,18,19,20,24,21,22] [23,25,26,27,28,29] (by kernel_rfl) (by kernel_rfl) (by kernel_rfl) (by decide) (by rfl) (by rfl) ⟨⟨World.drew U,(Below.refl _ U).drew⟩,rfl⟩ ?_
 have hz0:Below U.heap.size U U.drew:=(Below.refl _ U).drew
 generalize U.drew=v0 at hz0 ⊢
 simp only[pick,List.getElem?_cons_zero,List.getElem?_cons_succ]
 have hD0:=BM.out.later hz0
 repeat (first|(refine ax (by rfl) ?_)|(refine aI (by rfl) (by rfl) (fun K hK=>?_);go_big_quiet_op;refine hK _ ?_;clear hK K))
 refine aK (by rfl) (by rfl) (fun K hK=>?_)
 go_wp2_with fail
 refine(alB b re v0 (dO hD0.box).1 hre).mono ?_
 rintro z v' ⟨rfl,rfl⟩
 dsimp only
 refine hK _ _ (aA hz0) ?_
 clear hK K
 repeat (first|(refine ax (by rfl) ?_)|(refine aI (by rfl) (by rfl) (fun K hK=>?_);go_big_quiet_op;refine hK _ ?_;clear hK K))
 refine aK (by rfl) (by rfl) (fun K hK=>?_)
 go_wp2_with fail
 refine(NT b n e p re D.ay (dU NL) E P v0 hD0 hre).mono ?_
 rintro z v' ⟨rfl,rfl⟩
 dsimp only
 refine hK _ _ (aA hz0) ?_
 clear hK K
 repeat (first|(refine ax (by rfl) ?_)|(refine aI (by rfl) (by rfl) (fun K hK=>?_);go_big_quiet_op;refine hK _ ?_;clear hK K))
 refine aK (by rfl) (by rfl) (fun K hK=>?_)
 go_wp2_with fail
 refine(XP b n e p re D.ay (dU NL) E P v0 hD0 hre).mono ?_
 rintro z v' ⟨rfl,rfl⟩
 rw[hEl]
 dsimp only
 refine hK _ _ (aA hz0) ?_
 clear hK K
 repeat (first|(refine ax (by rfl) ?_)|(refine aI (by rfl) (by rfl) (fun K hK=>?_);go_big_quiet_op;refine hK _ ?_;clear hK K))
 refine aK (by rfl) (by rfl) (fun K hK=>?_)
 go_wp2_with fail
 refine(aad (HH.out.later hz0) hN hx hp (kG HT.out hz0) hre hsz).mono ?_
 rintro z v2 ⟨za,rfl,hv2,hd2⟩
 have aV:=ag hz0 hv2
 dsimp only
 refine hK _ _ (aA aV) ?_
 clear hK K
 refine bV ?_
 refine⟨since v2,fun v hv=>?_,⟨⟨v2,Below.refl _ _⟩,rfl⟩,?_⟩
 ·obtain⟨x,rfl⟩:=hv
  exact⟨⟨x.w,ag aV x.b⟩,rfl⟩
 have HD2:=Lib.hid hd2.out
 have HRV:=Lib.hid (HH.out.later aV)
 have D7:=Lib.hid (ag HB.out aV)
 have k1:∀v:Later v2,(convert 61 9 (.slice za.a (pR D).length za.cap)).run Tryz.prog v.w=.ok (.string S1) v.w:=fun v=>jy.out▸rW za.a za.cap (pR D) _ (HD2.out.later v.b)
 clear uc uf ur ul hd2 hv2 aV hz0 hD0
 repeat (first|(refine ax (by rfl) ?_)|(refine PT (by rfl) (by rfl) (fun K hK=>?_);go_big_quiet_op;refine hK _ ?_;clear hK K))
 refine aai (by rfl) (by rfl) (fun K hK=>?_)
 go_wp2_with fail
 refine(aog HRV.out hN hsz).mono ?_
 rintro z v3 ⟨zb,rfl,hv3,hd3⟩
 have k2:=rW zb.a zb.cap (pR D) v3 hd3.out
 rw[←jy.out]at k2
 dsimp only
 refine hK _ _ (aA hv3) ?_
 clear hK K
 repeat (first|(refine ax (by rfl) ?_)|(refine PT (by rfl) (by rfl) (fun K hK=>?_);go_big_quiet_op;refine hK _ ?_;clear hK K))
 refine aai (by rfl) (by rfl) (fun K hK=>?_)
 go_wp2_with fail
 refine hK _ _ (aA hv3) ?_
 clear hK K
 repeat (first|(refine ax (by rfl) ?_)|(refine PT (by rfl) (by rfl) (fun K hK=>?_);go_big_quiet_op;refine hK _ ?_;clear hK K))
 refine bV ?_
 have HBE:=Lib.hid (ag D7.out hv3)
 clear k1 k2 hd3 hv3
 go_wp2_with fail
 go_ret
 exact⟨rfl,HBE.out⟩
end Go.Proofs.YtfieenjdcpjmgaaGreatDoor
namespace Go.Proofs.YtfieenjdcpjmgaaGreatDoor
open Go.RowKit Go.WW
theorem aou(ρ:Operand→Value)(dst:Option Tmp)(x:Operand)(ty:TypeId)(pos:String)(after:Array Edge)(guard:Option (Nat×Bool)):execOp ρ {dst,op:=.buildSlice 38 1 #[(0,x)],type:=ty,pos,after,guard}=qg 38 1 #[(0,ρ x)]:=by simp[execOp,qg]
theorem aov(w:World)(s:ByteArray):(qg 38 1 #[(0,.string s)]).run Tryz.prog w=.ok (.value (.slice (some ⟨w.heap.size,0,none⟩) 1 1)) (w.alloc (.cells #[.string s] 9)):=by kernel_rfl
attribute [local go_sem] aov
attribute [local go_sem ↓] aou
theorem BN(s:ByteArray)(w:World)(hs:s.size≤lim):Calls Tryz.prog 22 #[.string s] w fun z w'=>∃t:Sl,z=.returned (.agg (ah t ⟨[s],dH⟩))∧Below w.heap.size w w'∧bH w' (fresh w.heap.size w') (fun y=>bn y t ⟨[s],dH⟩):=by
 have hcp:aS ((w.alloc (.cells #[.slice none 0 0,.string ⟨#[]⟩] 40)).alloc (.cells #[.string s] 9)) w.heap.size 0 2=true:=by simp[go_sem]
 go_enter Tryz.func22,Tryz.ntmps22
 go_wp2_with fail
 rw[show(#[Value.slice (some ⟨w.heap.size+1,0,none⟩) 1 1,Value.string ⟨#[82]⟩]:Array Value)=ah ⟨some ⟨w.heap.size+1,0,none⟩,1⟩ ⟨[s],dH⟩ from rfl]
 have hB:Below w.heap.size w ((w.alloc (.cells #[.slice none 0 0,.string ⟨#[]⟩] 40)).alloc (.cells #[.string s] 9)):=aj (aj (Below.refl _ _) _) _
 have hat:∀x:World,x.heap[w.heap.size+1]?=some (.cells #[.string s] 9)→bn x ⟨some ⟨w.heap.size+1,0,none⟩,1⟩ ⟨[s],dH⟩:=fun x hx=>by
  refine⟨⟨by simp[lim],fun i hi=>?_⟩,(by decide:dH.size≤lim)⟩
  have hi0:i=0:=by simpa using hi
  subst hi0
  exact⟨w.heap.size+1,0,.string s,rfl,by have:=(aB hx).1 0;simpa using this,s,rfl,rfl,hs⟩
 have hnew:((w.alloc (.cells #[.slice none 0 0,.string ⟨#[]⟩] 40)).alloc (.cells #[.string s] 9)).heap[w.heap.size+1]?=some (.cells #[.string s] 9):=by
  have:=World.alloc_heap_new (w.alloc (.cells #[.slice none 0 0,.string ⟨#[]⟩] 40)) (.cells #[.string s] 9)
  rwa[World.size_alloc]at this
 generalize ((w.alloc (.cells #[.slice none 0 0,.string ⟨#[]⟩] 40)).alloc (.cells #[.string s] 9))=W at *
 rw[JE W _ 0 _ (uN _ _) (by simp[go_sem]),hcp,Fp]
 go_simp
 go_wp2_with fail
 have hrow:=iO (w:=W) (uN ⟨some ⟨w.heap.size+1,0,none⟩,1⟩ ⟨[s],dH⟩) hcp
 refine bodyPost_ret (KP (by rfl) Tryz.underlying40 rfl (by kernel_rfl) rfl hrow) rfl ⟨_,rfl,Go.WW.Below.putRow hB (Nat.le_refl _),fun y hy=>hat y ((hy _ ⟨by omega,(Array.getElem?_eq_some_iff.1 ((iI (w:=W) (b:=w.heap.size) (o:=0) (cs:=ah ⟨some ⟨w.heap.size+1,0,none⟩,1⟩ ⟨[s],dH⟩) (k:=w.heap.size+1) (by omega)).trans hnew)).1⟩).trans ((iI (by omega)).trans hnew))⟩
def EZ(s:Sl)(a:Sl):aN:={aW with parts:=s,aliases:=a}
def E5(q:az)(l:List az):Entry:={aQ with name:=q,aliases:=l}
theorem aaj{w:World}{s a:Sl}{q:az}{l:List az}(h:bn w s q)(ha:fJ w a.a l):bK w (EZ s a) (E5 q l):=by
 have z:=Gx w
 exact⟨h,ha,z.keys,z.targets,z.bD,z.history,z.aO,z.attrs⟩
theorem aow(s:Sl)(q:az)(w:World):(iq 47 #[(0,.agg (ah s q))]).run Tryz.prog w=.ok (.value (.agg (ae (EZ s bF) (E5 q [])))) w:=by kernel_rfl
theorem aox(ρ:Operand→Value)(dst:Option Tmp)(x y:Operand)(ty:TypeId)(pos:String)(after:Array Edge)(guard:Option (Nat×Bool)) :
  execOp ρ {dst,op:=.build 47 #[(0,x),(1,y)],type:=ty,pos,after,guard}=iq 47 #[(0,ρ x),(1,ρ y)]:=by simp[execOp,iq]
theorem aoy(s:Sl)(q p:az)(a:Addr)(w:World):(iq 47 #[(0,.agg (ah s q)),(1,.slice (some a) 1 1)]).run Tryz.prog w=.ok (.value (.agg (ae (EZ s ⟨some a,1⟩) (E5 q [p])))) w:=by kernel_rfl
theorem aoz(ρ:Operand→Value)(dst:Option Tmp)(x:Operand)(ty:TypeId)(pos:String)(after:Array Edge)(guard:Option (Nat×Bool)):execOp ρ {dst,op:=.buildSlice 41 1 #[(0,x)],type:=ty,pos,after,guard}=qg 41 1 #[(0,ρ x)]:=by simp[execOp,qg]
theorem aoA(w:World)(s:Sl)(p:az):(qg 41 1 #[(0,.agg (ah s p))]).run Tryz.prog w=.ok (.value (.slice (some ⟨w.heap.size,0,none⟩) 1 1)) (w.alloc (.cells (ah s p) 40)):=by kernel_rfl
end Go.Proofs.YtfieenjdcpjmgaaGreatDoor
namespace Go.WW
open Go.RowKit
def sO:az:=⟨[⟨#[97]⟩],dH⟩
def pV:az:=⟨[⟨#[98]⟩],dH⟩
def fH:Entry:={aQ with name:=sO,aliases:=[pV]}
def wF:Entry:={aQ with name:=pV}
def E8:ByteArray:=⟨#[115,116,97,102,102]⟩
def qF:Entry:={fH with aO:=E8}
def zO:Entry:={fH with aO:=⟨#[120]⟩}
def E9:ai:=⟨E8,1,1,0,0,0,0,0,0,0⟩
def wG:Db:={eQ dH with entries:=[fH],ay:=1}
def kD2:Db:={eQ dH with entries:=[fH],au:=[E9],ay:=2}
def BO:Db:={eQ dH with entries:=[qF],au:=[E9],ay:=3}
theorem k1(r:aN):kS (eQ dH) [] r fH 0 wG [(r,fH)]:=.put (by decide +kernel) rfl (.inl rfl) (by simp) [] (List.Sublist.refl _) rfl
theorem k2(r r2:aN):kS wG [(r,fH)] r2 wF 11 wG [(r,fH)]:=.busy (by decide +kernel) rfl (.inl rfl) ⟨fH,by simp,by decide +kernel,by decide +kernel⟩
theorem k3(r:aN):rU wG [(r,fH)] pV 9 wG [(r,fH)]:=.none (by intro x hx;simp only[List.mem_singleton]at hx;subst hx;show aY fH.name pV=false;decide +kernel)
theorem k4:mZ wG E9 0 kD2:=.new (by decide +kernel) rfl
theorem k5(r r3:aN):kS kD2 [(r,fH)] r3 qF 0 BO [(r3,qF)]:=
 .put (by decide +kernel) rfl (.inr (by decide +kernel)) (by intro x hx _;simp only[List.map_cons,List.map_nil,List.mem_singleton]at hx;subst hx;rfl) [] (List.nil_sublist _) (show([]:List Entry)=kz [fH] (textOf qF.name) by decide +kernel)
theorem k6:qw BO E8 11 BO:=.busy 0 (by decide) rfl ⟨qF,by simp[BO],rfl⟩
theorem k7(r3 r4:aN):kS BO [(r3,qF)] r4 zO 9 BO [(r3,qF)]:=.uk (by decide +kernel) rfl (by decide +kernel) (by decide +kernel)
structure oM(w:World)(f:FuncId)(b7 b8 b9:Nat)(tb ts tf:TypeId)(bb o len cap:Nat):Prop where
 short:w.heap[b8]?=some (.cells #[.bool false] tb)
 rest:w.heap[b7]?=some (.cells #[.slice (some ⟨bb,o,none⟩) len cap] ts)
 cut:w.heap[b9]?=some (.cells #[.func (.func f) #[] #[.pointer (some ⟨b8,0,none⟩),.pointer (some ⟨b7,0,none⟩)]] tf)
 PU:b7≠b8
 PV:b7≠b9
 neb:b7≠bb
 le:len≤cap
 lim:cap≤9223372036854775807
theorem oM.later{w w':World}{f:FuncId}{b7 b8 b9:Nat}{tb ts tf:TypeId}{bb o len cap:Nat}(h:oM w f b7 b8 b9 tb ts tf bb o len cap)(hb:Below w.heap.size w w'):oM w' f b7 b8 b9 tb ts tf bb o len cap:=
 ⟨(hb.block _ (Array.getElem?_eq_some_iff.1 h.short).1).trans h.short,(hb.block _ (Array.getElem?_eq_some_iff.1 h.rest).1).trans h.rest,(hb.block _ (Array.getElem?_eq_some_iff.1 h.cut).1).trans h.cut,h.PU,h.PV,h.neb,h.le,h.lim⟩
theorem oM.next{w:World}{f:FuncId}{b7 b8 b9:Nat}{tb ts tf:TypeId}{bb o len cap:Nat}(h:oM w f b7 b8 b9 tb ts tf bb o len cap){n:Nat}(hn:n≤len):oM (w.setCell ⟨b7,0,none⟩ (.slice (some ⟨bb,o+n,none⟩) (len-n:Nat) (cap-n:Nat))) f b7 b8 b9 tb ts tf bb (o+n) (len-n) (cap-n):=by
 have hl:=h.le
 have hc:=h.lim
 refine⟨(Below.heap_setCell _ _ _ _ h.PU.symm).trans h.short,?_,(Below.heap_setCell _ _ _ _ h.PV.symm).trans h.cut,h.PU,h.PV,h.neb,by omega,by omega⟩
 have:=dI (o:=0) (.slice (some ⟨bb,o+n,none⟩) (len-n:Nat) (cap-n:Nat)) h.rest
 simpa using this
end Go.WW
namespace Go.Proofs.YtfieenjdcpjmgaaGreatDoor
open Go.RowKit Go.WW
section
variable (b7 b8 b9 bb o len cap:Nat) (ts:TypeId) (w:World) (h:oM w 53 b7 b8 b9 4 61 ts bb o len cap)
include h
theorem cut_c(n:Nat)(hn:n<cap)(hn2:n≤len) :
  Calls Tryz.prog 53 #[.int .u64 n,.pointer (some ⟨b8,0,none⟩),.pointer (some ⟨b7,0,none⟩)] w fun e w'=>e=.returned (.slice (some ⟨bb,o,none⟩) n n)∧w'=w.setCell ⟨b7,0,none⟩ (.slice (some ⟨bb,o+n,none⟩) (len-n:Nat) (cap-n:Nat)):=by
 obtain⟨c8,f8,r8,l8⟩:=aB h.short
 obtain⟨c7,f7,r7,l7⟩:=aB h.rest
 have hlc:=h.le
 have hl:=h.lim
 have hnl:¬(len:Int)<(n:Int):=by omega
 have aiO:len<18446744073709551616:=by omega
 go_enter Tryz.func53,Tryz.ntmps53
 go_wp2_with fail
 go_ret
 exact⟨rfl,rfl⟩
theorem PW(n:Nat)(hn:n<cap)(hn2:n≤len)(hz:∀i,i<n→w.cell? ⟨bb,o+i,none⟩=some (.int .u8 0))(hbb:bb<w.heap.size) :
  Calls Tryz.prog 54 #[.int .i64 n,.pointer (some ⟨b9,0,none⟩)] w fun e w'=>e=.returned (.int .u64 0)∧w'=w.setCell ⟨b7,0,none⟩ (.slice (some ⟨bb,o+n,none⟩) (len-n:Nat) (cap-n:Nat)):=by
 obtain⟨c9,f9,r9,l9⟩:=aB h.cut
 have hlc:=h.le
 have hl:=h.lim
 have arz:n<18446744073709551616:=by omega
 have HC:=Lib.hid (cut_c b7 b8 b9 bb o len cap ts w h n hn hn2)
 have hz':∀i,i<n→(w.setCell ⟨b7,0,none⟩ (.slice (some ⟨bb,o+n,none⟩) (len-n:Nat) (cap-n:Nat))).cell? ⟨bb,o+i,none⟩=some (.int .u8 0):=fun i hi=>by
  rw[World.cell?_of_block (w:=w) (Below.heap_setCell _ _ _ _ (show bb≠b7 from h.neb.symm))]
  exact hz i hi
 have hbl:bb<(w.setCell ⟨b7,0,none⟩ (.slice (some ⟨bb,o+n,none⟩) (len-n:Nat) (cap-n:Nat))).heap.size:=by simpa[World.setCell]using hbb
 have HZ:=Lib.hid hz'
 clear hz hz'
 go_enter Tryz.func54,Tryz.ntmps54
 go_wp2_with fail
 refine HC.out.mono ?_
 rintro e V ⟨rfl,hV⟩
 dsimp only
 have HZ2:=Lib.hid (show ∀i,i<n→V.cell? ⟨bb,o+i,none⟩=some (.int .u8 0) from hV▸HZ.out)
 have aoB:bb<V.heap.size:=hV▸hbl
 have HV:=Lib.hid hV
 clear hV hbl
 go_wp2_with fail
 go_loopw [3,5,11] (fun v _ iv wr=>∃k:Nat,k≤n∧iv=.int .i64 k∧v=.int .u64 0∧wr=V) (fun _ _ iv _=>n-(intOf iv).toNat)
 case atStart=>exact⟨0,Nat.zero_le _,rfl,rfl,rfl⟩
 case round=>
  obtain⟨k,hk,rfl,rfl,rfl⟩:=hrel
  by_cases hlt:k<n
  ·have hki:(k:Int)<(n:Int):=by omega
   have hc:=HZ2.out k hlt
   go_wp2_with fail
   go_roundw
   case rel=>exact⟨k+1,by omega,by go_num,by first|rfl|trivial,by first|rfl|trivial⟩
   case measure=>simp[intOf];omega
  ·obtain rfl:k=n:=by omega
   go_wp2_with fail
   go_ret
   exact⟨rfl,HV.out⟩
theorem aoC(hn:1<cap)(hn2:1≤len)(hz:w.cell? ⟨bb,o,none⟩=some (.int .u8 1))(hbb:bb<w.heap.size) :
  Calls Tryz.prog 54 #[.int .i64 1,.pointer (some ⟨b9,0,none⟩)] w fun e w'=>e=.returned (.int .u64 1)∧w'=w.setCell ⟨b7,0,none⟩ (.slice (some ⟨bb,o+1,none⟩) (len-1:Nat) (cap-1:Nat)):=by
 obtain⟨c9,f9,r9,l9⟩:=aB h.cut
 have hlc:=h.le
 have hl:=h.lim
 have HC:=Lib.hid (cut_c b7 b8 b9 bb o len cap ts w h 1 hn hn2)
 have hz':(w.setCell ⟨b7,0,none⟩ (.slice (some ⟨bb,o+1,none⟩) (len-1:Nat) (cap-1:Nat))).cell? ⟨bb,o,none⟩=some (.int .u8 1):=by
  rw[World.cell?_of_block (w:=w) (Below.heap_setCell _ _ _ _ (show bb≠b7 from h.neb.symm))]
  exact hz
 have hbl:bb<(w.setCell ⟨b7,0,none⟩ (.slice (some ⟨bb,o+1,none⟩) (len-1:Nat) (cap-1:Nat))).heap.size:=by simpa[World.setCell]using hbb
 clear hz
 go_enter Tryz.func54,Tryz.ntmps54
 go_wp2_with fail
 refine HC.out.mono ?_
 rintro e V ⟨rfl,hV⟩
 dsimp only
 have hz2:V.cell? ⟨bb,o,none⟩=some (.int .u8 1):=hV▸hz'
 have aoB:bb<V.heap.size:=hV▸hbl
 have HV:=Lib.hid hV
 clear hV hbl
 go_wp2_with fail
 refine wp_loop_rounds 2 ?_
 rw[rounds_succ]
 go_wp2_with fail
 rw[rounds_succ]
 go_wp2_with fail
 go_ret
 exact⟨by first|rfl|kernel_rfl,HV.out⟩
end
end Go.Proofs.YtfieenjdcpjmgaaGreatDoor
