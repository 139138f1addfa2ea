/- A part of the proof. -/
import Derived.Test.YtibhckkjciflaaaGreatDoorA30
import Derived.Test.YtibhckkjciflaaaGreatDoorA28
set_option maxRecDepth 100000
set_option maxHeartbeats 4000000
namespace Go.WW
open Go.RowKit
section
variable {P:Program} {ops:Array Oper} {S:World→Prop} {st:Oper→Bool} {Q:Act→World→Prop}
theorem qB{Q':Act→World→Prop}(hQ:∀a w,S w→Q a w→Q' a w):∀(M:List Oper) (a:Act) (w:World),S w→bu P ops st S Q M a w→bu P ops st S Q' M a w
 | [],a,w,hS,h=>hQ a w hS h
 |o::M,a,w,hS,h=>by
  rw[iG]at *
  split
  ·rename_i hw
   rw[if_pos hw]at h
   by_cases hs:st o=true
   ·rw[if_pos hs]at h ⊢
    obtain⟨v,hv,hh⟩:=h
    exact⟨v,hv,qB hQ M _ _ hS hh⟩
   ·rw[if_neg hs]at h ⊢
    exact Oper.wp_mono (fun a' w' hh=>⟨hh.1,qB hQ M _ _ hh.1 hh.2⟩) h
  ·rename_i hw
   rw[if_neg hw]at h
   exact qB hQ M _ _ hS h
theorem yO:∀(M N:List Oper) (a:Act) (w:World),bu P ops st S Q (M++N) a w=bu P ops st S (fun a' w'=>bu P ops st S Q N a' w') M a w
 | [],_,_,_=>rfl
 |o::M,N,a,w=>by
  rw[List.cons_append,iG,iG]
  simp only[yO M N]
theorem agi{Q1 Q2:Act→World→Prop}{o:Oper}{M1 M2:List Oper}{a:Act}{w:World}(hst:st o=true)(hS:S w)(h1:bu P ops st S Q1 (o::M1) a w)(h2:bu P ops st S Q2 (o::M2) a w) :
  bu P ops st S (fun a' w'=>bu P ops st S Q1 M1 a' w'∧bu P ops st S Q2 M2 a' w') [o] a w:=by
 rw[iG]at *
 split
 ·rename_i hw
  rw[if_pos hw,if_pos hst]at h1 h2
  first
   |rw[if_pos hst]
   |skip
  obtain⟨v,hv,hh⟩:=h1
  obtain⟨v',hv',hh'⟩:=h2
  have e:v'=v:=by
   have:=(hv' w hS).symm.trans (hv w hS)
   simpa using this
  subst e
  exact⟨v',hv,hh,hh'⟩
 ·rename_i hw
  rw[if_neg hw]at h1 h2
  exact⟨h1,h2⟩
structure Ky(st:Oper→Bool)(ops:Array Oper)(m:Array (List Nat))(x c:Nat):Prop where
 tV:Region.noSelect ops=true
 back:∀j oj,ops[j]?=some oj→∀e∈oj.after,Region.binds .any e=true→e.on<j
 pred:∀j oj,ops[j]?=some oj→∀i∈m.getD j [],∃e∈oj.after,Region.binds .any e=true∧(e.on=i∨i∈m.getD e.on [])
 pair:∀j oj,ops[j]?=some oj→∀i,i<j→∀oi,ops[i]?=some oi→(∃e∈oj.after,Region.binds .any e=true∧e.on=i)∨(oi.apart ops oj=true∧(st oi=true∨st oj=true∨i∈m.getD j []∨(i=c∧j=x)))
 past:∀i oi oc,ops[i]?=some oi→ops[c]?=some oc→c<i→i<x→oi.apart ops oc=true∧st oi=true
 look:∀i oi,ops[i]?=some oi→c<i→i≠x→st oi=true∨c∈m.getD i []
 lt:c<x
theorem Ud{m:Array (List Nat)}{x c:Nat}(hok:Ky st ops m x c){listed:Array Bool}
  (hdown:∀k o,ops[k]?=some o→listed.getD k false=true→∀e∈o.after,Region.binds .any e=true→listed.getD e.on false=true) :
  ∀(j:Nat) (oj:Oper),ops[j]?=some oj→(∀e∈oj.after,Region.binds .any e=true→listed.getD e.on false=true)→∀i∈m.getD j [],listed.getD i false=true:=by
 intro j
 induction j using Nat.strongRecOn with
 |_ j ih=>
  intro oj hj hall i hi
  obtain⟨e,he,hb,hor⟩:=hok.pred j oj hj i hi
  rcases hor with rfl|hor
  ·exact hall e he hb
  ·have hlt:=hok.back j oj hj e he hb
   have hjs:j<ops.size:=(Array.getElem?_eq_some_iff.1 hj).1
   have hoe:ops[e.on]?=some (ops[e.on]'(by omega)):=by simp
   exact ih e.on hlt _ hoe (hdown _ _ hoe (hall e he hb)) i hor
def kz(c:Nat)(L:List Nat):List Nat:=L.filter fun k=>decide (k<c)
def je(c:Nat)(L:List Nat):List Nat:=L.filter fun k=>decide (c≤k)
def eY(x c:Nat)(L:List Nat):List Nat:=L.filter fun k=>decide (c<k)&&decide (k≤x)
def fA(x:Nat)(L:List Nat):List Nat:=L.filter fun k=>decide (x<k)
theorem Ue{x c:Nat}(hcx:c<x):∀{L:List Nat},L.Pairwise (· < ·)→c∈L→je c L=c::(eY x c L++fA x L)
 | [],_,h=>by cases h
 |k::L,hs,h=>by
  have hp:=List.pairwise_cons.1 hs
  by_cases hk:k=c
  ·subst hk
   have h1:je k L=eY x k L++fA x L:=by
    have h2:∀y∈L,k<y:=fun y hy=>hp.1 y hy
    have h3:je k L=L:=List.filter_eq_self.2 fun y hy=>by have:=h2 y hy;simp;omega
    rw[h3]
    have hsp:=Uc (x+1) L hp.2
    have e1:L.filter (fun q=>decide (q<x+1))=eY x k L:=List.filter_congr fun y hy=>by have:=h2 y hy;simp[this];omega
    have e2:L.filter (fun q=>decide (x+1≤q))=fA x L:=List.filter_congr fun y hy=>by simp;omega
    rw[e1,e2]at hsp
    exact hsp.symm
   have e1:je k (k::L)=k::je k L:=List.filter_cons_of_pos (by simp)
   have e2:eY x k (k::L)=eY x k L:=List.filter_cons_of_neg (by simp)
   have e3:fA x (k::L)=fA x L:=List.filter_cons_of_neg (by simp;omega)
   rw[e1,e2,e3,h1]
  ·have hcL:c∈L:=by
    rcases List.mem_cons.1 h with e|e
    ·exact absurd e.symm hk
    ·exact e
   have hkc:=hp.1 c hcL
   have ih:=Ue hcx hp.2 hcL
   have e1:je c (k::L)=je c L:=List.filter_cons_of_neg (by simp;omega)
   have e2:eY x c (k::L)=eY x c L:=List.filter_cons_of_neg (by simp;omega)
   have e3:fA x (k::L)=fA x L:=List.filter_cons_of_neg (by simp;omega)
   rw[e1,e2,e3,ih]
def wY(P:Program)(ops:Array Oper)(st:Oper→Bool)(S:World→Prop)(Q:Act→World→Prop)(x c:Nat)(L:List Nat):Act→World→Prop:=fun a w=>
 bu P ops st S Q ((je c L).filterMap (ops[·]?)) a w∧(x∈L→c∈L→bu P ops st S Q ((eY x c L++c::fA x L).filterMap (ops[·]?)) a w)
theorem agj{m:Array (List Nat)}{x c:Nat}(hok:Ky st ops m x c){Q':Exit→Act→World→Prop}(hQ:∀a w,Q a w→Q' .normal a w) :
  ∀(n:Nat) (L:List Nat) (listed:Array Bool) (a:Act) (w:World),L.length=n→L.Pairwise (· < ·)→listed.size=ops.size→(∀j,j∈L↔j<ops.size∧listed.getD j true=false)→
   (∀k o,ops[k]?=some o→listed.getD k false=true→∀e∈o.after,Region.binds .any e=true→listed.getD e.on false=true)→
   S w→bu P ops st S (wY P ops st S Q x c L) ((kz c L).filterMap (ops[·]?)) a w→wpAny P .any ops Q' n listed a w:=by
 intro n
 induction n with
 |zero=>
  intro L listed a w hn _ hsz hL _ _ h
  have:L=[]:=List.eq_nil_of_length_eq_zero hn
  subst this
  refine⟨?_,hQ _ _ h.1⟩
  cases hr:Region.ready .any ops listed with
  |nil=>rfl
  |cons i r=>
   have hi:i∈Region.ready .any ops listed:=by rw[hr];simp
   obtain⟨h0,o,ho,_⟩:=mem_ready.1 hi
   have:=(hL i).2 ⟨(Array.getElem?_eq_some_iff.1 ho).1,h0⟩
   cases this
 |succ n ih=>
  intro L listed a w hn hsort hsz hL hdown hS h
  refine⟨fun hr=>?_,fun i hi=>?_⟩
  ·exfalso
   cases L with
   |nil=>simp at hn
   |cons j L=>
    obtain⟨hj,hjl⟩:=(hL j).1 (by simp)
    have hoj:ops[j]?=some ops[j]:=by simp[hj]
    have:j∈Region.ready .any ops listed:=by
     refine mem_ready.2 ⟨hjl,_,hoj,fun e he hb=>?_⟩
     have hlt:=hok.back j _ hoj e he hb
     have hnot:e.on∉j::L:=by
      intro hmem
      rcases List.mem_cons.1 hmem with h1|h1
      ·omega
      ·have:=(List.pairwise_cons.1 hsort).1 _ h1;omega
     have h2:listed.getD e.on true≠false:=fun hf=>hnot ((hL e.on).2 ⟨by omega,hf⟩)
     have hes:e.on<listed.size:=by omega
     simp[hes]at h2 ⊢;exact h2
    rw[hr]at this;cases this
  ·obtain⟨h0,o,ho,hall⟩:=mem_ready.1 hi
   have his:i<ops.size:=(Array.getElem?_eq_some_iff.1 ho).1
   have hiL:i∈L:=(hL i).2 ⟨his,h0⟩
   have hnl:∀k∈L,¬listed.getD k false=true:=fun k hk hf=>by
    have hkl:=((hL k).1 hk).2
    rw[OG hf]at hkl;cases hkl
   obtain⟨L1,L2,rfl⟩:=List.append_of_mem hiL
   have oW:=List.pairwise_append.1 hsort
   have hlt1:∀y∈L1,y<i:=fun y hy=>oW.2.2 y hy i (by simp)
   have hgt2:∀y∈L2,i<y:=fun y hy=>(List.pairwise_cons.1 oW.2.1).1 y hy
   have Uf:(L1++L2).Pairwise (· < ·):=List.pairwise_append.2 ⟨oW.1,(List.pairwise_cons.1 oW.2.1).2,fun y hy z hz=>oW.2.2 y hy z (by simp[hz])⟩
   have hrest:∀a' w',S w'→bu P ops st S (wY P ops st S Q x c (L1++L2)) ((kz c (L1++L2)).filterMap (ops[·]?)) a' w'→wpAny P .any ops Q' n (listed.setIfInBounds i true) a' w':=by
    intro a' w' hS' hh
    refine ih (L1++L2) (listed.setIfInBounds i true) a' w' ?_ Uf (by simpa using hsz) ?_ ?_ hS' hh
    ·simp at hn ⊢;omega
    ·intro j
     by_cases hji:j=i
     ·subst hji
      constructor
      ·intro hm
       exfalso
       rcases List.mem_append.1 hm with h1|h1
       ·have:=hlt1 _ h1;omega
       ·have:=hgt2 _ h1;omega
      ·rintro⟨_,hf⟩
       have:j<listed.size:=by omega
       simp[this]at hf
     ·rw[getD_set_ne true (Ne.symm hji),←hL j]
      simp[hji]
    ·intro k ok hk hkl e he hb
     by_cases hki:k=i
     ·subst hki
      rw[ho]at hk;cases hk
      exact getD_set_true (hall e he hb)
     ·rw[getD_set_ne false (Ne.symm hki)]at hkl
      exact getD_set_true (hdown k ok hk hkl e he hb)
   have pass:∀k ox,ops[k]?=some ox→k∈L1++i::L2→k<i→¬(k=c∧i=x)→(∀cs b,ox.op≠.select cs b)∧ox.apart ops o=true∧(st ox=true∨st o=true):=by
    intro k ox hox hk hki hne
    refine⟨(Region.noSelect_spec hok.tV k ox · · hox),?_⟩
    rcases hok.pair i o ho k hki ox hox with⟨e,he,hb,rfl⟩|⟨hap,hor⟩
    ·exact absurd (hall e he hb) (hnl _ hk)
    ·refine⟨hap,?_⟩
     rcases hor with h1|h1|h1|h1
     ·exact .inl h1
     ·exact .inr h1
     ·exact absurd (Ud hok hdown i o ho hall k h1) (hnl _ hk)
     ·exact absurd h1 hne
   have hsel:=(Region.noSelect_spec hok.tV i o · · ho)
   have single:∀(Qs:Act→World→Prop) (R:List Oper) (K:Act→World→Prop),bu P ops st S Qs (o::R) a w→(∀a' w',S w'→bu P ops st S Qs R a' w'→K a' w')→wpOp P ops Q' i K a w:=by
    intro Qs R K kJ hrest
    unfold wpOp
    simp only[ho]
    rw[iG]at kJ
    split
    ·rename_i hw
     rw[if_pos hw]at kJ
     refine .inl ?_
     by_cases hs:st o=true
     ·rw[if_pos hs]at kJ
      obtain⟨v,hv,hh⟩:=kJ
      unfold Oper.wp
      rw[hv w hS]
      exact hrest _ _ hS hh
     ·rw[if_neg hs]at kJ
      exact OE (Oper.wp_mono (fun a' w' hh=>hrest a' w' hh.1 hh.2) kJ)
    ·rename_i hw
     rw[if_neg hw]at kJ
     exact hrest _ _ hS kJ
   have hnot:∀y∈L1++L2,y≠i:=fun y hy e=>by
    subst e
    rcases List.mem_append.1 hy with h1|h1
    ·have:=hlt1 _ h1;omega
    ·have:=hgt2 _ h1;omega
   have yP:∀y∈L1++L2,y∈L1++i::L2:=fun y hy=>by
    rcases List.mem_append.1 hy with h1|h1
    ·simp[h1]
    ·simp[h1]
   have BN:∀y∈L1++i::L2,y≠i→y∈L1++L2:=fun y hy hne=>by
    rcases List.mem_append.1 hy with h1|h1
    ·simp[h1]
    ·rcases List.mem_cons.1 h1 with h2|h2
     ·exact absurd h2 hne
     ·simp[h2]
   by_cases hic:i<c
   ·
    have e1:kz c (L1++i::L2)=kz c L1++i::kz c L2:=by simp[kz,List.filter_append,hic]
    have e2:kz c (L1++L2)=kz c L1++kz c L2:=by simp[kz,List.filter_append]
    have e3:wY P ops st S Q x c (L1++i::L2)=wY P ops st S Q x c (L1++L2):=by
     have hlt:=hok.lt
     have h1:je c (L1++i::L2)=je c (L1++L2):=by simp[je,List.filter_append,show ¬c≤i by omega]
     have h2:eY x c (L1++i::L2)=eY x c (L1++L2):=by simp[eY,List.filter_append,show ¬c<i by omega]
     have h3:fA x (L1++i::L2)=fA x (L1++L2):=by simp[fA,List.filter_append,show ¬x<i by omega]
     have hx:(x∈L1++i::L2)=(x∈L1++L2):=propext ⟨fun h=>BN x h (by omega),yP x⟩
     have hc:(c∈L1++i::L2)=(c∈L1++L2):=propext ⟨fun h=>BN c h (by omega),yP c⟩
     unfold wY
     rw[h1,h2,h3,hx,hc]
    rw[e3,e1,List.filterMap_append,List.filterMap_cons_some ho]at h
    have hf:=qi hsel _ (fun y hy=>by
     obtain⟨k,l7,hox⟩:=List.mem_filterMap.1 hy
     have hk:=List.mem_filter.1 l7
     exact pass k y hox (by simp[hk.1]) (hlt1 k hk.1) (fun h'=>by have:=hok.lt;omega)) a w hS h
    rw[←List.filterMap_append,←e2]at hf
    exact single _ _ _ hf hrest
   ·have hlt:=hok.lt
    have eA:kz c (L1++i::L2)=kz c (L1++L2):=by simp[kz,List.filter_append,hic]
    have eB:je c (L1++i::L2)=je c L1++i::je c L2:=by simp[je,List.filter_append,show c≤i by omega]
    have Ug:je c (L1++L2)=je c L1++je c L2:=by simp[je,List.filter_append]
    rw[eA]at h
    have Kz:∀y∈(kz c (L1++L2)).filterMap (ops[·]?),(∀cs b,y.op≠.select cs b)∧y.apart ops o=true∧(st y=true∨st o=true):=fun y hy=>by
     obtain⟨k,l7,hox⟩:=List.mem_filterMap.1 hy
     have hk:=List.mem_filter.1 l7
     have hkc:k<c:=by simpa using hk.2
     exact pass k y hox (yP k hk.1) (by omega) (fun h'=>by omega)
    have agk:¬(c∈L1++i::L2∧i=x)→bu P ops st S Q (o::((kz c (L1++L2)).filterMap (ops[·]?)++(je c (L1++L2)).filterMap (ops[·]?))) a w:=fun hne=>by
     have h1:=qB (fun a' w' _ hb=>hb.1) _ a w hS h
     rw[←yO,eB,List.filterMap_append,List.filterMap_cons_some ho,←List.append_assoc]at h1
     have hf:=qi hsel _ (fun y hy=>by
      rcases List.mem_append.1 hy with hy|hy
      ·exact Kz y hy
      ·obtain⟨k,l7,hox⟩:=List.mem_filterMap.1 hy
       have hk:=List.mem_filter.1 l7
       exact pass k y hox (by simp[hk.1]) (hlt1 k hk.1) (fun h'=>hne ⟨by rw[←h'.1];simp[hk.1],h'.2⟩)) a w hS h1
     rw[List.append_assoc,←List.filterMap_append,←Ug]at hf
     exact hf
    have one:¬(c∈L1++i::L2∧i=x)→¬(x∈L1++L2∧c∈L1++L2)→wpOp P ops Q' i (wpAny P .any ops Q' n (listed.setIfInBounds i true)) a w:=fun h1 h2=>
     single _ _ _ (agk h1) (fun a' w' hS' hh=>hrest a' w' hS' (by
      rw[yO]at hh
      exact qB (fun a2 w2 _ hb=>⟨hb,fun hx hc=>absurd ⟨hx,hc⟩ h2⟩) _ a' w' hS' hh))
    by_cases hb:x∈L1++i::L2∧c∈L1++i::L2
    ·obtain⟨hx,hc⟩:=hb
     by_cases hix:i=x
     ·subst hix
      have hcR:c∈L1++L2:=BN c hc (by omega)
      have m1:eY i c L2=[]:=List.filter_eq_nil_iff.2 fun y hy=>by have:=hgt2 y hy;simp;omega
      have m2:fA i L1=[]:=List.filter_eq_nil_iff.2 fun y hy=>by have:=hlt1 y hy;simp;omega
      have e1:eY i c (L1++i::L2)=eY i c L1++[i]:=by
       have:eY i c (L1++i::L2)=eY i c L1++i::eY i c L2:=by simp[eY,List.filter_append,hlt]
       rw[this,m1]
      have e2:fA i (L1++i::L2)=fA i L2:=by
       have:fA i (L1++i::L2)=fA i L1++fA i L2:=by simp[fA,List.filter_append]
       rw[this,m2,List.nil_append]
      have e3:je c (L1++L2)=c::(eY i c L1++fA i L2):=by
       rw[Ue hlt Uf hcR]
       have f1:eY i c (L1++L2)=eY i c L1++eY i c L2:=by simp[eY,List.filter_append]
       have f2:fA i (L1++L2)=fA i L1++fA i L2:=by simp[fA,List.filter_append]
       rw[f1,f2,m1,m2,List.append_nil,List.nil_append]
      obtain⟨oc,hoc⟩:∃oc,ops[c]?=some oc:=⟨ops[c]'((hL c).1 hc).1,by simp⟩
      have h2:=qB (fun a' w' _ hb=>hb.2 hx hc) _ a w hS h
      rw[←yO,e1,e2,List.append_assoc,List.filterMap_append,List.singleton_append,List.filterMap_cons_some ho,List.filterMap_cons_some hoc,←List.append_assoc]at h2
      have hf:=qi hsel _ (fun y hy=>by
       rcases List.mem_append.1 hy with hy|hy
       ·exact Kz y hy
       ·obtain⟨k,l7,hox⟩:=List.mem_filterMap.1 hy
        have hk:=List.mem_filter.1 l7
        have hkc:c<k:=by have:=hk.2;simp at this;omega
        exact pass k y hox (by simp[hk.1]) (hlt1 k hk.1) (fun h'=>by omega)) a w hS h2
      refine single _ _ _ hf (fun a' w' hS' hh=>hrest a' w' hS' ?_)
      rw[List.append_assoc,yO]at hh
      refine qB (fun a2 w2 hS2 hb=>⟨?_,fun hx' _=>absurd rfl (hnot _ hx')⟩) _ a' w' hS' hh
      rw[e3,List.filterMap_cons_some hoc,List.filterMap_append]
      exact qi (Region.noSelect_spec hok.tV c oc · · hoc) _ (fun y hy=>by
       obtain⟨k,l7,hoy⟩:=List.mem_filterMap.1 hy
       have hk:=List.mem_filter.1 l7
       have hkc:c<k:=by have:=hk.2;simp at this;omega
       obtain⟨ha,hs⟩:=hok.past k y oc hoy hoc hkc (hlt1 k hk.1)
       exact⟨(Region.noSelect_spec hok.tV k y · · hoy),ha,.inl hs⟩) a2 w2 hS2 hb
     ·by_cases Uh:i=c
      ·refine one (fun h'=>hix h'.2) (fun h'=>hnot _ h'.2 Uh.symm)
      ·have hci:c<i:=by omega
       have hst:st o=true:=by
        rcases hok.look i o ho hci hix with h1|h1
        ·exact h1
        ·exact absurd (Ud hok hdown i o ho hall c h1) (hnl _ hc)
       obtain⟨oc,hoc⟩:∃oc,ops[c]?=some oc:=⟨ops[c]'((hL c).1 hc).1,by simp⟩
       have hcR:=BN c hc (Ne.symm Uh)
       have hxR:=BN x hx (Ne.symm hix)
       have hb:bu P ops st S (fun a' w'=>bu P ops st S (wY P ops st S Q x c (L1++L2)) [o] a' w') ((kz c (L1++L2)).filterMap (ops[·]?)) a w:=by
        refine qB (fun a2 w2 hS2 hb=>?_) _ a w hS h
        obtain⟨hb1,hb2⟩:=hb
        have hb2:=hb2 hx hc
        rw[eB,List.filterMap_append,List.filterMap_cons_some ho]at hb1
        have hf1:=qi hsel _ (fun y hy=>by
         obtain⟨k,l7,hox⟩:=List.mem_filterMap.1 hy
         have hk:=List.mem_filter.1 l7
         exact pass k y hox (by simp[hk.1]) (hlt1 k hk.1) (fun h'=>hix h'.2)) a2 w2 hS2 hb1
        rw[←List.filterMap_append,←Ug]at hf1
        have hf2:bu P ops st S Q (o::(eY x c (L1++L2)++c::fA x (L1++L2)).filterMap (ops[·]?)) a2 w2:=by
         by_cases hlx:i<x
         ·have e1:eY x c (L1++i::L2)=eY x c L1++i::eY x c L2:=by simp[eY,List.filter_append,hci,show i≤x by omega]
          have e2:fA x (L1++i::L2)=fA x (L1++L2):=by simp[fA,List.filter_append,show ¬x<i by omega]
          have e3:eY x c (L1++L2)=eY x c L1++eY x c L2:=by simp[eY,List.filter_append]
          rw[e1,e2,List.append_assoc,List.cons_append,List.filterMap_append,List.filterMap_cons_some ho]at hb2
          have hf:=qi hsel _ (fun y hy=>by
           obtain⟨k,l7,hox⟩:=List.mem_filterMap.1 hy
           have hk:=List.mem_filter.1 l7
           exact pass k y hox (by simp[hk.1]) (hlt1 k hk.1) (fun h'=>hix h'.2)) a2 w2 hS2 hb2
          rw[←List.filterMap_append,←List.append_assoc,←e3]at hf
          exact hf
         ·have hxi:x<i:=by omega
          have e1:eY x c (L1++i::L2)=eY x c (L1++L2):=by simp[eY,List.filter_append,show ¬i≤x by omega]
          have e2:fA x (L1++i::L2)=fA x L1++i::fA x L2:=by simp[fA,List.filter_append,hxi]
          have e3:fA x (L1++L2)=fA x L1++fA x L2:=by simp[fA,List.filter_append]
          rw[e1,e2,←List.cons_append,←List.append_assoc,List.filterMap_append,List.filterMap_cons_some ho]at hb2
          have hf:=qi hsel _ (fun y hy=>by
           obtain⟨k,l7,hox⟩:=List.mem_filterMap.1 hy
           have pF:k∈L1++i::L2∧k<i:=by
            rcases List.mem_append.1 l7 with hk|hk
            ·have hk':=List.mem_filter.1 hk
             have:=hk'.2
             simp at this
             exact⟨yP k hk'.1,by omega⟩
            ·rcases List.mem_cons.1 hk with hk|hk
             ·subst hk;exact⟨hc,hci⟩
             ·have hk':=List.mem_filter.1 hk
              exact⟨by simp[hk'.1],hlt1 k hk'.1⟩
           exact pass k y hox pF.1 pF.2 (fun h'=>hix h'.2)) a2 w2 hS2 hb2
          rw[←List.filterMap_append,List.append_assoc,List.cons_append,←e3]at hf
          exact hf
        exact qB (fun a3 w3 _ hb=>⟨hb.1,fun _ _=>hb.2⟩) _ a2 w2 hS2 (agi hst hS2 hf1 hf2)
       rw[←yO]at hb
       have hf:=qi hsel _ Kz a w hS hb
       rw[List.append_nil]at hf
       exact single _ _ _ hf hrest
    ·refine one (fun h'=>hb ⟨h'.2▸hiL,h'.1⟩) (fun h'=>hb ⟨yP _ h'.1,yP _ h'.2⟩)
def E5(st:Oper→Bool)(ops:Array Oper)(x c:Nat):Bool:=
 let m:=Ag st ops
 Region.noSelect ops&&decide (c<x)&&(List.range ops.size).all fun j=>match ops[j]? with
  |none=>true
  |some oj=>
   oj.after.toList.all (fun e=>!Region.binds .any e || decide (e.on<j))&&
   (m.getD j []).all (fun i=>oj.after.toList.any fun e=>Region.binds .any e&&(e.on == i || (m.getD e.on []).contains i))&&
   ((List.range j).all fun i=>match ops[i]? with
    |none=>true
    |some oi=>oj.after.toList.any (fun e=>Region.binds .any e&&e.on == i) || (oi.apart ops oj&&(st oi || st oj || (m.getD j []).contains i || (i == c&&j == x))))&&
   (!(decide (c<j)) || j == x || st oj || (m.getD j []).contains c)&&
   (match ops[c]? with
    |none=>true
    |some oc=>!(decide (c<j)&&decide (j<x)) || (oj.apart ops oc&&st oj))
theorem agl{x c:Nat}(h:E5 st ops x c=true):Ky st ops (Ag st ops) x c:=by
 unfold E5 at h
 simp only[Bool.and_eq_true,List.all_eq_true,List.mem_range,decide_eq_true_eq]at h
 obtain⟨⟨hs,hlt⟩,h⟩:=h
 have lt:∀{j:Nat} {oj:Oper},ops[j]?=some oj→j<ops.size:=fun hj=>(Array.getElem?_eq_some_iff.1 hj).1
 refine⟨hs,fun j oj hj=>?_,fun j oj hj=>?_,fun j oj hj=>?_,fun j oj oc hj hoc=>?_,fun j oj hj=>?_,hlt⟩
 all_goals
  have hh:=h j (lt hj)
  simp only[hj,Bool.and_eq_true,List.all_eq_true,List.mem_range]at hh
  obtain⟨⟨⟨⟨h1,h2⟩,h3⟩,h4⟩,h5⟩:=hh
 ·intro e he hb
  have:=h1 e (by simpa using he)
  simpa[hb]using this
 ·intro i hi
  have:=h2 i hi
  simp only[List.any_eq_true,Bool.and_eq_true,Bool.or_eq_true,beq_iff_eq,List.contains_iff_mem]at this
  obtain⟨e,he,hb,hor⟩:=this
  exact⟨e,by simpa using he,hb,hor⟩
 ·intro i hi oi ho
  have:=h3 i hi
  simp only[ho,Bool.or_eq_true,List.any_eq_true,Bool.and_eq_true,beq_iff_eq,List.contains_iff_mem]at this
  rcases this with⟨e,he,hb,hor⟩|⟨ha,hor⟩
  ·exact .inl ⟨e,by simpa using he,hb,hor⟩
  ·exact .inr ⟨ha,by rcases hor with((h|h)|h)|h;exact .inl h;exact .inr (.inl h);exact .inr (.inr (.inl h));exact .inr (.inr (.inr h))⟩
 ·intro hci hix
  simp only[hoc,Bool.or_eq_true,Bool.not_eq_true',Bool.and_eq_false_iff,decide_eq_false_iff_not,Bool.and_eq_true]at h5
  rcases h5 with(h5|h5)|h5
  ·exact absurd hci h5
  ·exact absurd hix h5
  ·exact h5
 ·intro hcj hjx
  simp only[Bool.or_eq_true,Bool.not_eq_true',decide_eq_false_iff_not,beq_iff_eq,List.contains_iff_mem]at h4
  rcases h4 with((h4|h4)|h4)|h4
  ·exact absurd hcj h4
  ·exact absurd h4 hjx
  ·exact .inl h4
  ·exact .inr h4
theorem agn{id:Nat}{Q':Exit→Act→World→Prop}{a:Act}{w:World}{l:List Oper}(S:World→Prop)(st:Oper→Bool)(x c:Nat)(i1 i2 i3:List Nat)(hm:P.follows .mixedOrders=true)(hB:E5 st l.toArray x c=true)
  (h1:kz c (List.range l.toArray.size)=i1) (h2:je c (List.range l.toArray.size)=i2) (h3:eY x c (List.range l.toArray.size)++c::fA x (List.range l.toArray.size)=i3)
  (hS:S w.drew) (h:bu P l.toArray st S (fun a' w'=>bu P l.toArray st S (fun a' w'=>Q' .normal a' w') (pick l i2) a' w'∧bu P l.toArray st S (fun a' w'=>Q' .normal a' w') (pick l i3) a' w') (pick l i1) a w.drew):(Code.region id l.toArray true).wp P Q' a w:=by
 refine wp_region_any hm ?_
 refine agj (P:=P) (S:=S) (Q:=fun a' w'=>Q' .normal a' w') (agl hB) (Q':=Q') (fun _ _ h=>h) l.toArray.size (List.range l.toArray.size) (Array.replicate l.toArray.size false) a w.drew
  (by simp) List.pairwise_lt_range (by simp) (by intro j;simp;intro h;simp[h]) (by intro k o hk hkl;exfalso;rw[Array.getD_eq_getD_getElem?,Array.getElem?_replicate]at hkl;split at hkl<;>simp at hkl) hS ?_
 rw[h1,←EZ]
 refine qB (fun a' w' _ hb=>?_) _ a w.drew hS h
 unfold wY
 rw[h2,h3,←EZ,←EZ]
 exact⟨hb.1,fun _ _=>hb.2⟩
end
theorem agp{P:Program}{id:Nat}{Q':Exit→Act→World→Prop}{a:Act}{W w:World}{l:List Oper}(x c:Nat)(i1 i2 i3:List Nat)(hW:Below W.heap.size W w)(hm:P.follows .mixedOrders=true)(hB:E5 looks l.toArray x c=true)
  (h1:kz c (List.range l.toArray.size)=i1) (h2:je c (List.range l.toArray.size)=i2) (h3:eY x c (List.range l.toArray.size)++c::fA x (List.range l.toArray.size)=i3)
  (h:∀w1,Below W.heap.size W w1→bu P l.toArray looks (since W) (fun a' w'=>bu P l.toArray looks (since W) (fun a' w'=>Q' .normal a' w') (pick l i2) a' w'∧bu P l.toArray looks (since W) (fun a' w'=>Q' .normal a' w') (pick l i3) a' w') (pick l i1) a w1):(Code.region id l.toArray true).wp P Q' a w:=
 agn (since W) looks x c i1 i2 i3 hm hB h1 h2 h3 ⟨⟨w.drew,hW.drew⟩,rfl⟩ (h _ hW.drew)
end Go.WW
namespace Go.WW
open Go.RowKit
def jK(x:Sl×List UInt8):Array Value:=#[.slice x.1.a x.2.length x.1.cap]
theorem agq(l:List (Sl×List UInt8)):∀r∈l.map jK,dG r=true:=by
 intro r hr
 obtain⟨x,-,rfl⟩:=List.mem_map.1 hr
 simp[dG,jK,Value.oneCell']
theorem KA(l:List (Sl×List UInt8)):∀r∈l.map jK,r.size=1:=by
 intro r hr
 obtain⟨x,-,rfl⟩:=List.mem_map.1 hr
 rfl
theorem Ui(l:List (Sl×List UInt8)):flat (l.map jK)=l.map fun x=>Value.slice x.1.a x.2.length x.1.cap:=by
 unfold flat
 induction l with
 |nil=>rfl
 |cons a l ih=>rw[List.map_cons,List.flatMap_cons,ih,List.map_cons];rfl
theorem Uj{w:World}{a:Option Addr}{l:List (List UInt8)}(h:dH w a l):∀k,k≤l.length→∃items:List (Sl×List UInt8),items.map (·.2)=l.take k∧(∀x∈items,BytesAt w x.1.a x.2)∧
  ∀i (hi:i<items.length),∃b o,a=some ⟨b,o,none⟩∧w.cell? ⟨b,o+i,none⟩=some (.slice items[i].1.a items[i].2.length items[i].1.cap)
 |0,_=>⟨[],rfl,by simp,fun i hi=>by simp at hi⟩
 |k+1,hk=>by
  obtain⟨items,h1,h2,h3⟩:=Uj h k (by omega)
  obtain⟨b,o,s,ha,hc,hb⟩:=h.get k (by omega)
  have hlen:items.length=k:=by have:=congrArg List.length h1;simpa[Nat.min_eq_left (show k≤l.length by omega)]using this
  refine⟨items++[(s,l[k])],by rw[List.map_append,h1,List.take_succ_eq_append_getElem (by omega)];rfl,fun x hx=>?_,fun i hi=>?_⟩
  ·rcases List.mem_append.1 hx with hx|hx
   ·exact h2 x hx
   ·simp only[List.mem_cons,List.not_mem_nil,or_false]at hx;subst hx;exact hb
  ·by_cases hik:i<items.length
   ·obtain⟨b',o',ha',hc'⟩:=h3 i hik
    exact⟨b',o',ha',by rw[List.getElem_append_left hik];exact hc'⟩
   ·obtain rfl:i=items.length:=by simp at hi;omega
    exact⟨b,o,ha,by rw[List.getElem_append_right (Nat.le_refl _)];simp[hlen];exact hc⟩
theorem Uk{w:World}{a:Option Addr}{items:List (Sl×List UInt8)}(h:∀i (hi:i<items.length),∃b o,a=some ⟨b,o,none⟩∧w.cell? ⟨b,o+i,none⟩=some (.slice items[i].1.a items[i].2.length items[i].1.cap)):eF w 1 a (items.map jK):=
 ⟨KA _,agq _,fun i hi=>by
  have hi':i<items.length:=by simpa using hi
  obtain⟨b,o,ha,hc⟩:=h i hi'
  exact⟨b,o,ha,by rw[Nat.mul_one,O9 hc];simp[jK]⟩⟩
theorem Own.lit{T:TypeId}{W w:World}(hW:W.heap.size≤w.heap.size)(items:List (Sl×List UInt8)){cs:Array Value}(h:cs=fM items)(hl:items.length≤1000000):Own (w.alloc (.cells cs T)) W.heap.size T 1 ⟨some ⟨w.heap.size,0,none⟩,items.length⟩ (items.map jK):=by
 subst h
 refine⟨⟨by rw[flat_length (KA _)],.inr ⟨w.heap.size,items.length,fM items,by rw[List.length_map],hW,World.alloc_heap_new _ _,by rw[List.length_map];exact Nat.le_refl _,by unfold maxLen;omega,by simp[fM],?_⟩⟩,KA _⟩
 rw[Ui,List.length_map,Nat.mul_one,fM]
 exact List.take_of_length_le (by simp)
structure Over(w:World)(g:Nat)(t:TypeId)(items:List (Sl×List UInt8)):Prop where
 blk:∃cur:Array Value,w.heap[g]?=some (.cells cur t)∧∀j (hj:j<items.length),cur[j]?=some (.slice items[j].1.a items[j].2.length items[j].1.cap)
 bytes:∀x∈items,BytesAt w x.1.a x.2
 off:∀x∈items,∀b o,x.1.a=some ⟨b,o,none⟩→0<x.2.length→b≠g
theorem Over.cell{w:World}{g:Nat}{t:TypeId}{items:List (Sl×List UInt8)}(h:Over w g t items)(j:Nat)(hj:j<items.length):w.cell? ⟨g,j,none⟩=some (.slice items[j].1.a items[j].2.length items[j].1.cap)∧w.frozen? ⟨g,j,none⟩=false:=by
 obtain⟨cur,h1,h2⟩:=h.blk
 exact⟨by rw[(pJ h1).1,h2 j hj],(pJ h1).2.1 j⟩
theorem Over.later{w w':World}{g:Nat}{t:TypeId}{items:List (Sl×List UInt8)}(h:Over w g t items)(hb:Below w.heap.size w w'):Over w' g t items:=by
 obtain⟨cur,h1,h2⟩:=h.blk
 exact⟨⟨cur,(hb.block g (pJ h1).2.2).trans h1,h2⟩,fun x hx=>(h.bytes x hx).later hb,h.off⟩
theorem Ul{α:Type}{x y:α}{rest:List α}:∀{res:List α} {j:Nat},¬res.length=j→((res++[y])++rest)[j]?=(res++x::rest)[j]?
 | [],0,h=>absurd rfl h
 | [],_+1,_=>rfl
 |_::_,0,_=>rfl
 |a::res,j+1,h=>by
  simp only[List.cons_append,List.getElem?_cons_succ]
  exact Ul (fun e=>h (by simp[e]))
theorem Over.put{w:World}{g k:Nat}{t:TypeId}{res rest:List (Sl×List UInt8)}{x y:Sl×List UInt8}(h:Over w g t (res++x::rest))(hk:res.length=k)(hy:BytesAt w y.1.a y.2)(hoff:∀b o,y.1.a=some ⟨b,o,none⟩→0<y.2.length→b≠g) :
  Over (w.setCell ⟨g,k,none⟩ (.slice y.1.a y.2.length y.1.cap)) g t ((res++[y])++rest):=by
 obtain⟨cur,h1,h2⟩:=h.blk
 have keep:∀z:Sl×List UInt8,BytesAt w z.1.a z.2→(∀b o,z.1.a=some ⟨b,o,none⟩→0<z.2.length→b≠g)→BytesAt (w.setCell ⟨g,k,none⟩ (.slice y.1.a y.2.length y.1.cap)) z.1.a z.2:=fun z hz ho=>by
  refine⟨hz.1,fun i hi=>?_⟩
  obtain⟨b,o,u,ha,hc,hr⟩:=hz.2 i hi
  exact⟨b,o,u,ha,by rw[World.cell?_of_block (a:=⟨b,o+i,none⟩) (Below.heap_setCell w ⟨g,k,none⟩ _ b (ho b o ha (by omega)))];exact hc,hr⟩
 have hmem:∀z∈(res++[y])++rest,z=y∨z∈res++x::rest:=fun z hz=>by
  simp only[List.mem_append,List.mem_cons,List.not_mem_nil,or_false]at hz ⊢
  rcases hz with(hz|hz)|hz
  ·exact .inr (.inl hz)
  ·exact .inl hz
  ·exact .inr (.inr (.inr hz))
 refine⟨⟨_,jA _ h1,fun j hj=>?_⟩,fun z hz=>?_,fun z hz=>?_⟩
 ·have hcl:k<cur.size:=by
   have:=h2 k (by simp;omega)
   exact(Array.getElem?_eq_some_iff.1 this).1
  rw[Array.getElem?_setIfInBounds]
  by_cases he:k=j
  ·subst he
   rw[if_pos rfl,if_pos hcl]
   subst hk
   simp
  ·rw[if_neg he,h2 j (by simp at hj ⊢;omega)]
   subst hk
   congr 1
   have hg:((res++[y])++rest)[j]?=(res++x::rest)[j]?:=Ul he
   rw[List.getElem?_eq_getElem hj,List.getElem?_eq_getElem (by simp at hj ⊢;omega)]at hg
   have this:=Option.some.inj hg
   rw[this]
 ·rcases hmem z hz with rfl|hz'
  ·exact keep _ hy hoff
  ·exact keep _ (h.bytes z hz') (h.off z hz')
 ·rcases hmem z hz with rfl|hz'
  ·exact hoff
  ·exact h.off z hz'
theorem Over.hist{w:World}{g:Nat}{t:TypeId}{items:List (Sl×List UInt8)}(h:Over w g t items)(hl:items.length≤lim):dH w (some ⟨g,0,none⟩) (items.map (·.2)):=by
 refine⟨by simpa using hl,fun i hi=>?_⟩
 have hi':i<items.length:=by simpa using hi
 refine⟨g,0,.slice items[i].1.a items[i].2.length items[i].1.cap,rfl,?_,items[i].2,items[i].1,by simp[hi'],rfl,h.bytes _ (List.getElem_mem hi')⟩
 rw[Nat.zero_add];exact(h.cell i hi').1
theorem ags{w:World}{S:Nat→Prop}{A:Option Addr}{l:List UInt8}{g:Nat}(h:bg w S fun y=>BytesAt y A l)(hg:¬S g):∀b o,A=some ⟨b,o,none⟩→0<l.length→b≠g:=by
 intro b o ha hl e
 subst e
 have h1:=h {w with heap:=w.heap.setIfInBounds b (.cells #[] 0)} (fun k hk=>by
  show(w.heap.setIfInBounds b (.cells #[] 0))[k]?=w.heap[k]?
  rw[Array.getElem?_setIfInBounds,if_neg (fun e=>hg (by rw[e];exact hk))])
 obtain⟨b',o',ha',hc⟩:=h1.get 0 hl
 rw[ha]at ha';cases ha'
 have hlt:=World.block_lt_of_cell? _ _ hc
 have hb:({w with heap:=w.heap.setIfInBounds b (.cells #[] 0)}:World).heap[b]?=some (.cells #[] 0):=by
  show(w.heap.setIfInBounds b (.cells #[] 0))[b]?=_
  have:b<w.heap.size:=by
   have h2:b<(w.heap.setIfInBounds b (.cells #[] 0)).size:=hlt
   simpa using h2
  rw[Array.getElem?_setIfInBounds,if_pos rfl,if_pos this]
 rw[cell_of_row _ _ _ _ _ _ hb]at hc
 simp at hc
theorem Um{w:World}{g:Nat}{items:List (Sl×List UInt8)}{t:TypeId}(hg:w.heap[g]?=some (.cells (fM items) t)){A:Option Addr}{l:List UInt8}(h:BytesAt w A l):∀b o,A=some ⟨b,o,none⟩→0<l.length→b≠g:=by
 intro b o ha hl e
 subst e
 obtain⟨b',o',ha',hc⟩:=h.get 0 hl
 rw[ha]at ha';cases ha'
 rw[(pJ hg).1]at hc
 obtain⟨x,-,hx⟩:=QU hc
 cases hx
theorem agt{w w':World}{g:Nat}{A:Option Addr}{l:List UInt8}(h:BytesAt w A l)(ho:∀b o,A=some ⟨b,o,none⟩→0<l.length→b≠g)(hk:∀k,k<w.heap.size→k≠g→w'.heap[k]?=w.heap[k]?):BytesAt w' A l:=by
 refine⟨h.1,fun i hi=>?_⟩
 obtain⟨b,o,u,ha,hc,hr⟩:=h.2 i hi
 exact⟨b,o,u,ha,by rw[World.cell?_of_block (a:=⟨b,o+i,none⟩) (hk b (World.block_lt_of_cell? _ _ hc) (ho b o ha (by omega)))];exact hc,hr⟩
theorem agu{T:TypeId}{W vc w5:World}{g0:Nat}{nY:List (Sl×List UInt8)}{qC:List (Sl×List UInt8)}{s5:Sl}(hg0:vc.heap[g0]?=some (.cells (fM qC) T))(hown:Own w5 W.heap.size T 1 s5 (qC.map jK++nY.map jK))
  (hg:vc.grownBy w5 (some g0)) (hat:s5.blk=some g0∨s5.blk=some vc.heap.size) (h4:∀x∈qC,BytesAt vc x.1.a x.2) (h2:∀x∈nY,BytesAt vc x.1.a x.2) (hn:0<qC.length) :
  ∃g,s5.a=some ⟨g,0,none⟩∧W.heap.size≤g∧Over w5 g T (qC++nY):=by
 have hall:∀x∈qC++nY,BytesAt vc x.1.a x.2:=fun x hx=>by
  rcases List.mem_append.1 hx with hx|hx
  ·exact h4 x hx
  ·exact h2 x hx
 obtain⟨g,ha,hb,-⟩:=hown.row 0 (by simp;omega)
 rcases hown.own.2 with⟨-,hz⟩|⟨g',cap,cur,hv,hbase,hheap,hle,-,hsz,htake⟩
 ·rw[List.length_append,List.length_map]at hz;omega
 have hgg:g'=g:=by
  have h1:s5.a=some ⟨g',0,none⟩:=by injection hv
  rw[ha]at h1;cases h1;rfl
 subst hgg
 refine⟨g',ha,hbase,⟨cur,hheap,fun j hj=>?_⟩,fun x hx=>?_,fun x hx b o hxa hl=>?_⟩
 ·have hf:flat (qC.map jK++nY.map jK)=(qC++nY).map fun x=>Value.slice x.1.a x.2.length x.1.cap:=by rw[←List.map_append,Ui]
  rw[hf,Nat.mul_one]at htake
  have hj':j<(qC.map jK++nY.map jK).length:=by simpa using hj
  have h3:(cur.toList.take (qC.map jK++nY.map jK).length)[j]?=cur[j]?:=by
   rw[List.getElem?_take,if_pos hj'];simp
  rw[←h3,htake]
  rw[List.getElem?_map,List.getElem?_eq_getElem hj];rfl
 ·exact agt (hall x hx) (Um hg0 (hall x hx)) (fun k hk hne=>hg.block k hk (fun e=>hne (by injection e)))
 ·rcases hat with e|e
  ·have:g'=g0:=by rw[hb]at e;injection e
   subst this
   exact Um hg0 (hall x hx) b o hxa hl
  ·have hgv:g'=vc.heap.size:=by rw[hb]at e;injection e
   obtain⟨b',o',ha',hc⟩:=(hall x hx).get 0 hl
   have hlt:b'<vc.heap.size:=World.block_lt_of_cell? _ _ hc
   rw[hxa]at ha'
   injection ha' with ha'
   injection ha' with hbb
   omega
end Go.WW
namespace Go.Proofs.YtibhckkjciflaaaGreatDoor
open Go.RowKit Go.WW
theorem agv(x:aT)(s:Sl)(r:aC)(w:World)(hat:dV w s r x)(hf:wM x)(ht:uF Tryz.prog w):Calls Tryz.prog 43 #[.agg (aH x s r)] w (aU w (qy x)):=by
 have hB0:Below w.heap.size w (w.alloc (.cells (aH x s r) 36)):=az (Below.refl _ _) _
 have ku:=hat.later hB0
 have EY:=lY ht hB0
 obtain⟨Un,hx4,hx0⟩:=ET hf hat.2.1.attrs.1
 have Uo:=Lib.hid Un
 have wZ:=Lib.hid (SL hf hat.2.1.attrs.1)
 have f1:=hf.i
 have f2:=hf.t
 have f3:=hf.m
 have f4:=hf.k
 have HC:=Lib.hid (fun(v:World) (hv:Below (w.alloc (.cells (aH x s r) 36)).heap.size (w.alloc (.cells (aH x s r) 36)) v)=>agh x s r v (ku.later hv) hf (lY EY hv))
 have HT:=Lib.hid (show qy x=dE (bU 0 (iE x)) from rfl)
 rw[HT.out]
 clear Un ku EY hf hat ht
 unfold aH at *
 go_enter Tryz.func43,Tryz.ntmps43
 go_wp2_with fail
 refine agp 14 12 [0,1,2,3,4,5,6,7,8,9,10,11] [12,13,14,15,16] [13,14,12,15,16] (Below.refl _ (w.alloc (.cells (aj x.i x.t x.m x.k s x.n r x.d x.q x.pn x.f x.a x.b) 36))) (by kernel_rfl) (by kernel_rfl) (by rfl) (by rfl) (by rfl) ?_
 intro v0 hv0
 have hP0:Ps (w.alloc (.cells (aj x.i x.t x.m x.k s x.n r x.d x.q x.pn x.f x.a x.b) 36)) v0 []:=⟨hv0,by simp⟩
 repeat (first|(refine ah (by rfl) ?_)|(refine ai (by rfl) (by rfl) (fun K hK=>?_);go_big_quiet_op;refine hK _ ?_;clear hK K))
 refine au (by rfl) (by rfl) (fun K hK=>?_)
 go_wp2_with fail
 refine(uB _ _ (by omega) (by omega)).mono ?_
 rintro e v1 ⟨s1,rfl,hb1,hd1⟩
 have hP1:=hP0.add hb1 hd1.out
 clear hP0 hb1 hd1
 refine hK _ _ (ak hP1.b) ?_
 clear hK K
 repeat (first|(refine ah (by rfl) ?_)|(refine ai (by rfl) (by rfl) (fun K hK=>?_);go_big_quiet_op;refine hK _ ?_;clear hK K))
 refine au (by rfl) (by rfl) (fun K hK=>?_)
 go_wp2_with fail
 refine(uB _ _ (by omega) (by omega)).mono ?_
 rintro e v2 ⟨s2,rfl,hb2,hd2⟩
 have hP2:=hP1.add hb2 hd2.out
 clear hP1 hb2 hd2
 refine hK _ _ (ak hP2.b) ?_
 clear hK K
 repeat (first|(refine ah (by rfl) ?_)|(refine ai (by rfl) (by rfl) (fun K hK=>?_);go_big_quiet_op;refine hK _ ?_;clear hK K))
 refine au (by rfl) (by rfl) (fun K hK=>?_)
 go_wp2_with fail
 refine(Bl _ _ f3.1 f3.2).mono ?_
 rintro e v3 ⟨s3,rfl,hb3,hd3⟩
 have hP3:=hP2.add hb3 hd3.out
 clear hP2 hb3 hd3
 refine hK _ _ (ak hP3.b) ?_
 clear hK K
 repeat (first|(refine ah (by rfl) ?_)|(refine ai (by rfl) (by rfl) (fun K hK=>?_);go_big_quiet_op;refine hK _ ?_;clear hK K))
 refine au (by rfl) (by rfl) (fun K hK=>?_)
 go_wp2_with fail
 refine(uB _ _ (by omega) (by omega)).mono ?_
 rintro e v4 ⟨s4,rfl,hb4,hd4⟩
 have fK:=hP3.add hb4 hd4.out
 clear hP3 hb4 hd4
 refine hK _ _ (ak fK.b) ?_
 clear hK K
 refine iH ?_
 refine⟨?agw,?agx⟩
 case' agw=>
  repeat (first|(refine ah (by rfl) ?_)|(refine ai (by rfl) (by rfl) (fun K hK=>?_);go_big_quiet_op;refine hK _ ?_;clear hK K))
  refine au (by rfl) (by rfl) (fun K hK=>?_)
  go_wp2_with fail
  have KC:=Own.lit (T:=41) fK.b.size [(s1,aA x.i.toNat),(s2,aA x.t.toNat),(s3,bf x.m.toNat),(s4,aA x.k.toNat)] rfl (by simp)
  have hbn:=az fK.b (.cells (fM [(s1,aA x.i.toNat),(s2,aA x.t.toNat),(s3,bf x.m.toNat),(s4,aA x.k.toNat)]) 41)
  refine hK _ _ (ak hbn) ?_
  clear hK K
  repeat (first|(refine ah (by rfl) ?_)|(refine ai (by rfl) (by rfl) (fun K hK=>?_);go_big_quiet_op;refine hK _ ?_;clear hK K))
  refine au (by rfl) (by rfl) (fun K hK=>?_)
  go_wp2_with fail
  refine(HC.out _ hbn).mono ?_
  rintro e vc ⟨sc,rfl,hbc,KD⟩
  have hbX:=af hbn hbc
  refine hK _ _ (ak hbX) ?_
  clear hK K
  repeat (first|(refine ah (by rfl) ?_)|(refine ai (by rfl) (by rfl) (fun K hK=>?_);go_big_quiet_op;refine hK _ ?_;clear hK K))
  have Ur:v4.heap.size<(v4.alloc (.cells (fM [(s1,aA x.i.toNat),(s2,aA x.t.toNat),(s3,bf x.m.toNat),(s4,aA x.k.toNat)]) 41)).heap.size:=by simp
  have hg0:vc.heap[v4.heap.size]?=some (.cells (fM [(s1,aA x.i.toNat),(s2,aA x.t.toNat),(s3,bf x.m.toNat),(s4,aA x.k.toNat)]) 41):=(hbc.block _ Ur).trans (World.alloc_heap_new _ _)
  have hO2:=KC.kept (w':=vc) (fun g hg=>hbc.block g (KC.base hg).2)
  have h4:∀y∈[(s1,aA x.i.toNat),(s2,aA x.t.toNat),(s3,bf x.m.toNat),(s4,aA x.k.toNat)],BytesAt vc y.1.a y.2:=fun y hy=>((fK.at_ y hy).later (az (Below.refl _ _) _)).later hbc
  clear fK KC hbn hbc Ur
 case' agx=>
  repeat (first|(refine ah (by rfl) ?_)|(refine ai (by rfl) (by rfl) (fun K hK=>?_);go_big_quiet_op;refine hK _ ?_;clear hK K))
  refine au (by rfl) (by rfl) (fun K hK=>?_)
  go_wp2_with fail
  refine(HC.out _ fK.b).mono ?_
  rintro e vc ⟨sc,rfl,hbc,Us⟩
  have fZ:=fK.mid hbc
  refine hK _ _ (ak fZ.b) ?_
  clear hK K
  repeat (first|(refine ah (by rfl) ?_)|(refine ai (by rfl) (by rfl) (fun K hK=>?_);go_big_quiet_op;refine hK _ ?_;clear hK K))
  refine au (by rfl) (by rfl) (fun K hK=>?_)
  go_wp2_with fail
  have hO2:=Own.lit (T:=41) fZ.b.size [(s1,aA x.i.toNat),(s2,aA x.t.toNat),(s3,bf x.m.toNat),(s4,aA x.k.toNat)] rfl (by simp)
  have hbX:=az fZ.b (.cells (fM [(s1,aA x.i.toNat),(s2,aA x.t.toNat),(s3,bf x.m.toNat),(s4,aA x.k.toNat)]) 41)
  refine hK _ _ (ak hbX) ?_
  clear hK K
  repeat (first|(refine ah (by rfl) ?_)|(refine ai (by rfl) (by rfl) (fun K hK=>?_);go_big_quiet_op;refine hK _ ?_;clear hK K))
  have KD:=Us.later (az (Below.refl _ _) (.cells (fM [(s1,aA x.i.toNat),(s2,aA x.t.toNat),(s3,bf x.m.toNat),(s4,aA x.k.toNat)]) 41))
  have hg0:=World.alloc_heap_new vc (.cells (fM [(s1,aA x.i.toNat),(s2,aA x.t.toNat),(s3,bf x.m.toNat),(s4,aA x.k.toNat)]) 41)
  have h4:∀y∈[(s1,aA x.i.toNat),(s2,aA x.t.toNat),(s3,bf x.m.toNat),(s4,aA x.k.toNat)],BytesAt (vc.alloc (.cells (fM [(s1,aA x.i.toNat),(s2,aA x.t.toNat),(s3,bf x.m.toNat),(s4,aA x.k.toNat)]) 41)) y.1.a y.2:=fun y hy=>(fZ.at_ y hy).later (az (Below.refl _ _) _)
  clear fK fZ hbc Us
 all_goals
  refine au (by rfl) (by rfl) (fun K hK=>?_)
  obtain⟨nY,hi1,hi2,hi3⟩:=Uj KD (dO x).length (Nat.le_refl _)
  rw[List.take_length]at hi1
  have hil:nY.length=(dO x).length:=by have:=congrArg List.length hi1;simpa using this
  refine BF _ _ _ rfl jM (n:=4) (s:=⟨some ⟨_,0,none⟩,4⟩) rfl rfl hO2 rfl (by rw[List.length_map,hil]) (Uk hi3) (by rw[List.length_map,List.length_map,hil];simp;omega) hbX.size ?_
  intro s5 w5 hown5 hg5 ES
  have hb5:=own_below hO2 hbX hg5
  obtain⟨g,hga,hgb,hOv⟩:=agu hg0 hown5 hg5 ES h4 hi2 (by simp)
  have HM:=Lib.hid (show(([(s1,aA x.i.toNat),(s2,aA x.t.toNat),(s3,bf x.m.toNat),(s4,aA x.k.toNat)]:List (Sl×List UInt8))++nY).map (·.2)=iE x by rw[List.map_append,hi1];rfl)
  have hal:(([(s1,aA x.i.toNat),(s2,aA x.t.toNat),(s3,bf x.m.toNat),(s4,aA x.k.toNat)]:List (Sl×List UInt8))++nY).length=4+(dO x).length:=by rw[List.length_append,hil];rfl
  have HO:=Lib.hid hOv
  obtain⟨all,hall⟩:∃all,all=(([(s1,aA x.i.toNat),(s2,aA x.t.toNat),(s3,bf x.m.toNat),(s4,aA x.k.toNat)]:List (Sl×List UInt8))++nY):=⟨_,rfl⟩
  rw[←hall]at HM hal HO
  obtain⟨s5a,Su⟩:=s5
  dsimp only at hga
  subst hga
  clear hall hown5 hg5 ES hOv h4 hO2 hi1 hi2 hi3 hil hg0 KD hbX
  go_wp2_with fail
  refine hK _ _ (ak hb5) ?_
  clear hK K
  repeat (first|(refine ah (by rfl) ?_)|(refine ai (by rfl) (by rfl) (fun K hK=>?_);go_big_quiet_op;refine hK _ ?_;clear hK K))
  refine iH ?_
  rw[←hal]
  have JP:all.length≤8:=by omega
  have hn0:0<all.length:=by omega
  have lh:=Lib.hid (show ∀y∈all,y.2.length≤1000000 by
   intro y hy
   have hm:y.2∈iE x:=by rw[←HM.out];exact List.mem_map_of_mem hy
   rcases List.mem_append.1 hm with hm|hm
   ·have e1:=jd (v:=x.i.toNat) (k:=7) (by decide) (by simp;omega)
    have e2:=jd (v:=x.t.toNat) (k:=7) (by decide) (by simp;omega)
    have e3:=nM x.m.toNat
    have e4:=jd (v:=x.k.toNat) (k:=7) (by decide) (by simp;omega)
    simp only[List.mem_cons,List.not_mem_nil,or_false]at hm
    rcases hm with e|e|e|e<;>rw[e]<;>omega
   ·exact Nat.le_trans (Uo.out _ hm) (by decide))
  have HN:=Lib.hid wZ.out
  clear hal hx4 hx0
  have hw5:=af hB0 hb5
  have hgw:w.heap.size≤g:=by simp at hgb;omega
  have HW:=Lib.hid hw5
  clear hB0 hb5 hw5 hgb HC
  go_wp2_with fail
  go_loopw [24] (fun iv wr=>∃(k:Nat) (res:List (Sl×List UInt8)),k≤all.length∧iv=.int .i64 k∧Hid (res.length=k∧res.map (·.2)=bU 0 ((all.map (·.2)).take k)∧Over wr g 41 (res++all.drop k)∧Below w.heap.size w5 wr∧w5.heap.size≤wr.heap.size)) (fun iv _=>all.length-(intOf iv).toNat)
  case atStart=>exact⟨0,[],Nat.zero_le _,rfl,rfl,rfl,HO.out,(Below.refl _ _),Nat.le_refl _⟩
  case round=>
   obtain⟨k,res,hk,rfl,HI⟩:=hrel
   by_cases hlt:k<all.length
   ·obtain⟨hrl,hrm,hov,hbl,hsz⟩:=HI.out
    have hd:all.drop k=all[k]::all.drop (k+1):=List.drop_eq_getElem_cons hlt
    rw[hd]at hov
    have hxk:=hov.bytes all[k] (List.mem_append.2 (.inr List.mem_cons_self))
    have hck:=hov.cell k (by simp;omega)
    have E8:(res++all[k]::all.drop (k+1))[k]'(by simp;omega)=all[k]:=by
     rw[List.getElem_append_right (by omega)];simp[hrl]
    rw[E8]at hck
    obtain⟨hck,hfk⟩:=hck
    have hgl:g<wr.heap.size:=World.block_lt_of_cell? _ _ hck
    have hn1:=lh.out all[k] (List.getElem_mem hlt)
    clear hrl hrm hov hbl hsz hd E8
    go_wp2_with fail
    refine(Bo k k _ _ all[k].2 _ rfl (by omega) hxk hn1).mono ?_
    rintro e w2 ⟨t2,rfl,hb2,hd2⟩
    have hc2:w2.cell? ⟨g,k,none⟩=some (.slice all[k].1.a all[k].2.length all[k].1.cap):=(hb2.cell (p:=⟨g,k,none⟩) hgl).trans hck
    have hf2:w2.frozen? ⟨g,k,none⟩=false:=(hb2.frozen (p:=⟨g,k,none⟩) hgl).trans hfk
    clear hck hfk hxk
    go_wp2_with fail
    go_roundw
    case rel=>
     obtain⟨hrl,hrm,hov,hbl,hsz⟩:=HI.out
     have hd:all.drop k=all[k]::all.drop (k+1):=List.drop_eq_getElem_cons hlt
     rw[hd]at hov
     refine⟨k+1,res++[(t2,aB k all[k].2)],by omega,by go_num,by simp[hrl],?_,?_,JM (hbl.trans (hb2.mono ?_)) hgw,?_⟩
     ·rw[List.map_append,JQ (by simpa using hlt) hrm]
      simp
     ·exact(hov.later hb2).put (y:=(t2,aB k all[k].2)) hrl hd2.out (ags hd2 (fun hf=>by have:=hf.1;omega))
     ·have:=hbl.size;have:=HW.out.size;omega
     ·have:=hb2.size;simp[World.setCell];omega
    case measure=>simp[intOf];omega
   ·obtain⟨hrl,hrm,hov,hbl,hsz⟩:=HI.out
    rw[List.drop_of_length_le (by omega),List.append_nil]at hov
    rw[List.take_of_length_le (by rw[List.length_map];omega),HM.out]at hrm
    have hh:=hov.hist (by unfold lim;omega)
    rw[hrm]at hh
    have hln:(bU 0 (iE x)).length=all.length:=by rw[yf,←HM.out,List.length_map]
    have mQ:=Lib.hid (rG (some ⟨g,0,none⟩) Su (bU 0 (iE x)) wr hh (by rw[hln];exact hn0) HN.out)
    rw[hln]at mQ
    have EI:=Lib.hid hbl
    clear hh hln hrl hrm hov hbl
    go_wp2_with fail
    refine mQ.out.mono ?_
    intro e w4 h4
    have Ut:Below w.heap.size w wr:=HW.out.trans EI.out
    obtain⟨s4',rfl,hb4,hd4⟩:=aU.from h4 Ut
    clear mQ Ut
    go_wp2_with fail
    go_ret
    exact⟨s4',rfl,hb4,hd4⟩
theorem agz(x:aT)(s:Sl)(r:aC)(w:World)(hx:dV w s r x)(hv:cZ x=false):Calls Tryz.prog 11 #[.agg (aH x s r)] w fun e w'=>e=.returned (.tuple #[.slice none 0 0,.int .i64 2])∧Below w.heap.size w w':=by
 have hB:Below w.heap.size w (w.alloc (.cells (aH x s r) 36)):=az (Below.refl _ _) _
 have HC:=Lib.hid (hv▸Ku x s r _ (hx.later hB))
 clear hv
 unfold aH at *
 go_enter Tryz.func11,Tryz.ntmps11
 go_wp2_with fail
 refine HC.out.mono ?_
 rintro e w2 ⟨rfl,hb2⟩
 have HB:=Lib.hid (af hB hb2)
 go_wp2_with fail
 go_ret2
 exact⟨rfl,HB.out⟩
theorem agA(x:aT)(s:Sl)(r:aC)(w:World)(hx:dV w s r x)(hv:cZ x=true)(ht:uF Tryz.prog w):Calls Tryz.prog 11 #[.agg (aH x s r)] w fun e w'=>∃z:Sl,e=.returned (.tuple #[.slice z.a (qy x).length z.cap,.int .i64 0])∧Below w.heap.size w w'∧BytesAt w' z.a (qy x):=by
 have hB:Below w.heap.size w (w.alloc (.cells (aH x s r) 36)):=az (Below.refl _ _) _
 have HC:=Lib.hid (hv▸Ku x s r _ (hx.later hB))
 have HF:=Lib.hid (TJ hv)
 have HT:=Lib.hid ht
 clear hv ht
 unfold aH at HC hB
 unfold aH
 go_enter Tryz.func11,Tryz.ntmps11
 go_wp2_with fail
 refine HC.out.mono ?_
 rintro e w2 ⟨rfl,hb2⟩
 have HB:=Lib.hid (af hB hb2)
 obtain⟨hcc,ax,hrr⟩:=aK hb2
 have hsz:w.heap.size<w2.heap.size:=by have:=hb2.size;simp at this;omega
 go_wp2_with fail
 refine(agv x s r _ (hx.later HB.out) HF.out (lY HT.out HB.out)).mono ?_
 rintro e w3 ⟨z,rfl,hb3,hd3⟩
 have HB3:=Lib.hid (af HB.out hb3)
 have HD:=Lib.hid hd3.out
 clear hd3 hb3
 go_wp2_with fail
 go_ret2
 exact⟨z,rfl,HB3.out,HD.out⟩
end Go.Proofs.YtibhckkjciflaaaGreatDoor
