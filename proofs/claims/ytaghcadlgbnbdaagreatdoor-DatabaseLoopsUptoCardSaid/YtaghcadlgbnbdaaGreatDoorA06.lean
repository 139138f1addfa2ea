/- A part of the proof. -/
import Derived.Test.YtaghcadlgbnbdaaGreatDoorA01
import Derived.Test.YtaghcadlgbnbdaaGreatDoorA05
import Derived.Test.YtaghcadlgbnbdaaGreatDoorA02
import Derived.Test.YtaghcadlgbnbdaaGreatDoorA04
import Derived.Deep.Upon
import Derived.RangeFuncNested
import Derived.RangeFuncBound
import Derived.RangeFuncCalls
import Derived.RangeFuncLeaves
import Derived.Shelf.Abstract
import Derived.Shelf.RegionOpen
import Derived.OwnWalkIn
import Derived.TacticsInMore
import Derived.LoopNIn
import Derived.LoopIn
import Derived.Scope
import Derived.Test.YtaghcadlgbnbdaaGreatDoorA03
set_option maxRecDepth 100000
set_option maxHeartbeats 6000000
namespace Go.WW
open Go.RowKit
section
variable {P:Program} {ops:Array Oper} {S:World→Prop} {st:Oper→Bool} {Q:Act→World→Prop}
structure NF(st:Oper→Bool)(ops:Array Oper)(m:Array (List Nat))(x c:Nat):Prop where
 kU:Region.noSelect ops=true
 back:∀j oj,ops[j]?=some oj→∀e∈oj.after,Region.binds .any e=true→e.on<j
 pred:∀j oj,ops[j]?=some oj→∀i∈m.getD j [],∃e∈oj.after,Region.binds .any e=true∧(e.on=i∨i∈m.getD e.on [])
 pair:∀j oj,ops[j]?=some oj→∀i,i<j→∀oi,ops[i]?=some oi→(∃e∈oj.after,Region.binds .any e=true∧e.on=i)∨(oi.apart ops oj=true∧(st oi=true∨st oj=true∨i∈m.getD j []∨(i=c∧j=x)))
 past:∀i oi ox,ops[i]?=some oi→ops[x]?=some ox→c<i→i<x→ox.apart ops oi=true∧st oi=true
 look:∀i oi,ops[i]?=some oi→i≠x→i≠c→st oi=true∨c∈m.getD i []
 lt:c<x
theorem Wq{m:Array (List Nat)}{x c:Nat}(hok:NF st ops m x c){listed:Array Bool}
  (hdown:∀k o,ops[k]?=some o→listed.getD k false=true→∀e∈o.after,Region.binds .any e=true→listed.getD e.on false=true) :
  ∀(j:Nat) (oj:Oper),ops[j]?=some oj→(∀e∈oj.after,Region.binds .any e=true→listed.getD e.on false=true)→∀i∈m.getD j [],listed.getD i false=true:=by
 intro j
 induction j using Nat.strongRecOn with
 |_ j ih=>
  intro oj hj hall i hi
  obtain⟨e,he,hb,hor⟩:=hok.pred j oj hj i hi
  rcases hor with rfl|hor
  ·exact hall e he hb
  ·have hlt:=hok.back j oj hj e he hb
   have hjs:j<ops.size:=(Array.getElem?_eq_some_iff.1 hj).1
   have hoe:ops[e.on]?=some (ops[e.on]'(by omega)):=by simp
   exact ih e.on hlt _ hoe (hdown _ _ hoe (hall e he hb)) i hor
def mv(x c:Nat)(L:List Nat):List Nat:=L.filter (fun k=>decide (k<c))++x::L.filter (fun k=>decide (c≤k)&&decide (k≠x))
theorem Ws(c:Nat):∀(L:List Nat),L.Pairwise (· < ·)→L.filter (fun k=>decide (k<c))++L.filter (fun k=>decide (c≤k))=L
 | [],_=>rfl
 |k::L,h=>by
  have hp:=List.pairwise_cons.1 h
  by_cases hk:k<c
  ·have ih:=Ws c L hp.2
   simp[hk,show ¬c≤k by omega,ih]
  ·have h1:L.filter (fun k=>decide (k<c))=[]:=by rw[List.filter_eq_nil_iff];intro y hy;have:=hp.1 y hy;simp;omega
   have h2:L.filter (fun k=>decide (c≤k))=L:=by rw[List.filter_eq_self];intro y hy;have:=hp.1 y hy;simp;omega
   simp[hk,show c≤k by omega,h1,h2]
theorem ahc{m:Array (List Nat)}{x c:Nat}(hok:NF st ops m x c){Q':Exit→Act→World→Prop}(hQ:∀a w,Q a w→Q' .normal a w) :
  ∀(n:Nat) (L:List Nat) (listed:Array Bool) (a:Act) (w:World),L.length=n→L.Pairwise (· < ·)→listed.size=ops.size→(∀j,j∈L↔j<ops.size∧listed.getD j true=false)→
   (∀k o,ops[k]?=some o→listed.getD k false=true→∀e∈o.after,Region.binds .any e=true→listed.getD e.on false=true)→
   S w→aF P ops st S Q (L.filterMap (ops[·]?)) a w→(x∈L→c∈L→aF P ops st S Q ((mv x c L).filterMap (ops[·]?)) a w)→wpAny P .any ops Q' n listed a w:=by
 intro n
 induction n with
 |zero=>
  intro L listed a w hn _ hsz hL _ _ h _
  have:L=[]:=List.eq_nil_of_length_eq_zero hn
  subst this
  refine⟨?_,hQ _ _ h⟩
  cases hr:Region.ready .any ops listed with
  |nil=>rfl
  |cons i r=>
   have hi:i∈Region.ready .any ops listed:=by rw[hr];simp
   obtain⟨h0,o,ho,_⟩:=mem_ready.1 hi
   have:=(hL i).2 ⟨(Array.getElem?_eq_some_iff.1 ho).1,h0⟩
   cases this
 |succ n ih=>
  intro L listed a w hn hsort hsz hL hdown hS h hX
  refine⟨fun hr=>?_,fun i hi=>?_⟩
  ·exfalso
   cases L with
   |nil=>simp at hn
   |cons j L=>
    obtain⟨hj,hjl⟩:=(hL j).1 (by simp)
    have hoj:ops[j]?=some ops[j]:=by simp[hj]
    have:j∈Region.ready .any ops listed:=by
     refine mem_ready.2 ⟨hjl,_,hoj,fun e he hb=>?_⟩
     have hlt:=hok.back j _ hoj e he hb
     have hnot:e.on∉j::L:=by
      intro hmem
      rcases List.mem_cons.1 hmem with h1|h1
      ·omega
      ·have:=(List.pairwise_cons.1 hsort).1 _ h1;omega
     have h2:listed.getD e.on true≠false:=fun hf=>hnot ((hL e.on).2 ⟨by omega,hf⟩)
     have hes:e.on<listed.size:=by omega
     simp[hes]at h2 ⊢;exact h2
    rw[hr]at this;cases this
  ·obtain⟨h0,o,ho,hall⟩:=mem_ready.1 hi
   have his:i<ops.size:=(Array.getElem?_eq_some_iff.1 ho).1
   have hiL:i∈L:=(hL i).2 ⟨his,h0⟩
   have hnl:∀k∈L,¬listed.getD k false=true:=fun k hk hf=>by
    have hkl:=((hL k).1 hk).2
    rw[ve hf]at hkl;cases hkl
   obtain⟨L1,L2,rfl⟩:=List.append_of_mem hiL
   have dQ:=List.pairwise_append.1 hsort
   have hlt1:∀y∈L1,y<i:=fun y hy=>dQ.2.2 y hy i (by simp)
   have hgt2:∀y∈L2,i<y:=fun y hy=>(List.pairwise_cons.1 dQ.2.1).1 y hy
   have Wu:(L1++L2).Pairwise (· < ·):=List.pairwise_append.2 ⟨dQ.1,(List.pairwise_cons.1 dQ.2.1).2,fun y hy z hz=>dQ.2.2 y hy z (by simp[hz])⟩
   have hrest:∀a' w',S w'→aF P ops st S Q ((L1++L2).filterMap (ops[·]?)) a' w'→(x∈L1++L2→c∈L1++L2→aF P ops st S Q ((mv x c (L1++L2)).filterMap (ops[·]?)) a' w')→wpAny P .any ops Q' n (listed.setIfInBounds i true) a' w':=by
    intro a' w' hS' hh hh2
    refine ih (L1++L2) (listed.setIfInBounds i true) a' w' ?_ Wu (by simpa using hsz) ?_ ?_ hS' hh hh2
    ·simp at hn ⊢;omega
    ·intro j
     by_cases hji:j=i
     ·subst hji
      constructor
      ·intro hm
       exfalso
       rcases List.mem_append.1 hm with h1|h1
       ·have:=hlt1 _ h1;omega
       ·have:=hgt2 _ h1;omega
      ·rintro⟨_,hf⟩
       have:j<listed.size:=by omega
       simp[this]at hf
     ·rw[getD_set_ne true (Ne.symm hji),←hL j]
      simp[hji]
    ·intro k ok hk hkl e he hb
     by_cases hki:k=i
     ·subst hki
      rw[ho]at hk;cases hk
      exact getD_set_true (hall e he hb)
     ·rw[getD_set_ne false (Ne.symm hki)]at hkl
      exact getD_set_true (hdown k ok hk hkl e he hb)
   have pass:∀k ox,ops[k]?=some ox→k∈L1++i::L2→k<i→¬(k=c∧i=x)→(∀cs b,ox.op≠.select cs b)∧ox.apart ops o=true∧(st ox=true∨st o=true):=by
    intro k ox hox hk hki hne
    refine⟨(Region.noSelect_spec hok.kU k ox · · hox),?_⟩
    rcases hok.pair i o ho k hki ox hox with⟨e,he,hb,rfl⟩|⟨hap,hor⟩
    ·exact absurd (hall e he hb) (hnl _ hk)
    ·refine⟨hap,?_⟩
     rcases hor with h1|h1|h1|h1
     ·exact .inl h1
     ·exact .inr h1
     ·exact absurd (Wq hok hdown i o ho hall k h1) (hnl _ hk)
     ·exact absurd h1 hne
   have hsel:=(Region.noSelect_spec hok.kU i o · · ho)
   have single:∀(R:List Oper) (K:Act→World→Prop),aF P ops st S Q (o::R) a w→(∀a' w',S w'→aF P ops st S Q R a' w'→K a' w')→wpOp P ops Q' i K a w:=by
    intro R K cO hrest
    unfold wpOp
    simp only[ho]
    rw[bu]at cO
    split
    ·rename_i hw
     rw[if_pos hw]at cO
     refine .inl ?_
     by_cases hs:st o=true
     ·rw[if_pos hs]at cO
      obtain⟨v,hv,hh⟩:=cO
      unfold Oper.wp
      rw[hv w hS]
      exact hrest _ _ hS hh
     ·rw[if_neg hs]at cO
      exact tK (Oper.wp_mono (fun a' w' hh=>hrest a' w' hh.1 hh.2) cO)
    ·rename_i hw
     rw[if_neg hw]at cO
     exact hrest _ _ hS cO
   have hnot:∀y∈L1++L2,y≠i:=fun y hy e=>by
    subst e
    rcases List.mem_append.1 hy with h1|h1
    ·have:=hlt1 _ h1;omega
    ·have:=hgt2 _ h1;omega
   have NG:(∀k∈L1,¬(k=c∧i=x))→aF P ops st S Q (o::(L1++L2).filterMap (ops[·]?)) a w:=fun hk=>by
    rw[List.filterMap_append,List.filterMap_cons_some ho]at h
    rw[List.filterMap_append]
    exact nN hsel _ (fun y hy=>by
     obtain⟨k,lg,hox⟩:=List.mem_filterMap.1 hy
     exact pass k y hox (by simp[lg]) (hlt1 k lg) (hk k lg)) a w hS h
   by_cases hb:x∈L1++i::L2∧c∈L1++i::L2
   ·obtain⟨hx,hc⟩:=hb
    have hcx:=hok.lt
    have hX':=hX hx hc
    by_cases hix:i=x
    ·subst hix
     have e1:(L1++i::L2).filter (fun k=>decide (k<c))=(L1++L2).filter (fun k=>decide (k<c)):=by
      simp[List.filter_append,show ¬i<c by omega]
     have e2:(L1++i::L2).filter (fun k=>decide (c≤k)&&decide (k≠i))=(L1++L2).filter (fun k=>decide (c≤k)):=by
      have:(L1++i::L2).filter (fun k=>decide (c≤k)&&decide (k≠i))=(L1++L2).filter (fun k=>decide (c≤k)&&decide (k≠i)):=by simp[List.filter_append]
      rw[this]
      apply List.filter_congr
      intro y hy
      simp[hnot y hy]
     have e3:=Ws c _ Wu
     rw[mv,e1,e2,List.filterMap_append,List.filterMap_cons_some ho]at hX'
     have hf:=nN hsel _ (fun y hy=>by
      obtain⟨k,lg,hox⟩:=List.mem_filterMap.1 hy
      have hk:=List.mem_filter.1 lg
      have hkc:k<c:=by simpa using hk.2
      have NH:k∈L1++i::L2:=by
       rcases List.mem_append.1 hk.1 with h1|h1
       ·simp[h1]
       ·simp[h1]
      exact pass k y hox NH (by omega) (fun h'=>by omega)) a w hS hX'
     rw[←List.filterMap_append,e3]at hf
     exact single _ _ hf (fun a' w' hS' hh=>hrest a' w' hS' hh (fun h' _=>absurd rfl (hnot _ h')))
    ·by_cases hic:i=c
     ·subst hic
      exact single _ _ (NG (fun k hk h'=>hix h'.2)) (fun a' w' hS' hh=>hrest a' w' hS' hh (fun _ h'=>absurd rfl (hnot _ h')))
     ·have hst:st o=true:=by
       rcases hok.look i o ho hix hic with h1|h1
       ·exact h1
       ·exact absurd (Wq hok hdown i o ho hall c h1) (hnl _ hc)
      have hf1:=NG (fun k hk h'=>hix h'.2)
      have hox:∃ox,ops[x]?=some ox:=by
       have:=((hL x).1 hx).1
       exact⟨ops[x],by simp[this]⟩
      obtain⟨ox,hox⟩:=hox
      have hf2:aF P ops st S Q (o::(mv x c (L1++L2)).filterMap (ops[·]?)) a w:=by
       by_cases hlt:i<c
       ·have e1:(L1++i::L2).filter (fun k=>decide (k<c))=L1.filter (fun k=>decide (k<c))++i::L2.filter (fun k=>decide (k<c)):=by simp[List.filter_append,hlt]
        have e2:(L1++i::L2).filter (fun k=>decide (c≤k)&&decide (k≠x))=(L1++L2).filter (fun k=>decide (c≤k)&&decide (k≠x)):=by simp[List.filter_append,show ¬c≤i by omega]
        rw[mv,e1,e2,List.append_assoc,List.cons_append,List.filterMap_append,List.filterMap_cons_some ho]at hX'
        have hf:=nN hsel _ (fun y hy=>by
         obtain⟨k,lg,hoy⟩:=List.mem_filterMap.1 hy
         have hk:=List.mem_filter.1 lg
         exact pass k y hoy (by simp[hk.1]) (hlt1 k hk.1) (fun h'=>hix h'.2)) a w hS hX'
        rw[←List.filterMap_append,←List.append_assoc,←List.filter_append]at hf
        exact hf
       ·have hgt:c<i:=by omega
        have e1:(L1++i::L2).filter (fun k=>decide (k<c))=(L1++L2).filter (fun k=>decide (k<c)):=by simp[List.filter_append,hlt]
        have e2:(L1++i::L2).filter (fun k=>decide (c≤k)&&decide (k≠x))=L1.filter (fun k=>decide (c≤k)&&decide (k≠x))++i::L2.filter (fun k=>decide (c≤k)&&decide (k≠x)):=by
         simp[List.filter_append,show c≤i by omega,hix]
        rw[mv,e1,e2,←List.cons_append,←List.append_assoc,List.filterMap_append,List.filterMap_cons_some ho]at hX'
        have hf:=nN hsel _ (fun y hy=>by
         obtain⟨k,lg,hoy⟩:=List.mem_filterMap.1 hy
         rcases List.mem_append.1 lg with h1|h1
         ·have hk:=List.mem_filter.1 h1
          have hkc:k<c:=by simpa using hk.2
          have NH:k∈L1++i::L2:=by
           rcases List.mem_append.1 hk.1 with h2|h2
           iterate 2
            ·simp[h2]
          exact pass k y hoy NH (by omega) (fun h'=>hix h'.2)
         ·rcases List.mem_cons.1 h1 with h1|h1
          ·subst h1
           by_cases hki:k<i
           ·exact pass k y hoy hx hki (fun h'=>hix h'.2)
           ·obtain⟨ha,hs⟩:=hok.past i o y ho hoy hgt (by omega)
            exact⟨(Region.noSelect_spec hok.kU k y · · hoy),ha,.inr hs⟩
          ·have hk:=List.mem_filter.1 h1
           exact pass k y hoy (by simp[hk.1]) (hlt1 k hk.1) (fun h'=>hix h'.2)) a w hS hX'
        rw[←List.filterMap_append,List.append_assoc,List.cons_append,←List.filter_append]at hf
        exact hf
      have hxR:x∈L1++L2:=by
       rcases List.mem_append.1 hx with h1|h1
       ·simp[h1]
       ·rcases List.mem_cons.1 h1 with h1|h1
        ·exact absurd h1.symm hix
        ·simp[h1]
      unfold wpOp
      simp only[ho]
      rw[bu]at hf1 hf2
      split
      ·rename_i hw
       rw[if_pos hw,if_pos hst]at hf1 hf2
       obtain⟨v,hv,hh⟩:=hf1
       obtain⟨v',hv',hh'⟩:=hf2
       have e:v'=v:=by
        have:=(hv' w hS).symm.trans (hv w hS)
        simpa using this
       subst e
       refine .inl ?_
       unfold Oper.wp
       rw[hv w hS]
       exact hrest _ _ hS hh (fun _ _=>hh')
      ·rename_i hw
       rw[if_neg hw]at hf1 hf2
       exact hrest _ _ hS hf1 (fun _ _=>hf2)
   ·refine single _ _ (NG (fun k hk h'=>hb ⟨by rw[←h'.2];simp,by rw[←h'.1];simp[hk]⟩)) (fun a' w' hS' hh=>hrest a' w' hS' hh (fun h1 h2=>absurd ⟨?_,?_⟩ hb))
    ·rcases List.mem_append.1 h1 with h3|h3
     ·simp[h3]
     ·simp[h3]
    ·rcases List.mem_append.1 h2 with h3|h3
     ·simp[h3]
     ·simp[h3]
def Ep(st:Oper→Bool)(ops:Array Oper)(x c:Nat):Bool:=
 let m:=Aq st ops
 Region.noSelect ops&&decide (c<x)&&(List.range ops.size).all fun j=>match ops[j]? with
  |none=>true
  |some oj=>
   oj.after.toList.all (fun e=>!Region.binds .any e || decide (e.on<j))&&
   (m.getD j []).all (fun i=>oj.after.toList.any fun e=>Region.binds .any e&&(e.on == i || (m.getD e.on []).contains i))&&
   ((List.range j).all fun i=>match ops[i]? with
    |none=>true
    |some oi=>oj.after.toList.any (fun e=>Region.binds .any e&&e.on == i) || (oi.apart ops oj&&(st oi || st oj || (m.getD j []).contains i || (i == c&&j == x))))&&
   (j == x || j == c || st oj || (m.getD j []).contains c)&&
   (match ops[x]? with
    |none=>true
    |some ox=>!(decide (c<j)&&decide (j<x)) || (ox.apart ops oj&&st oj))
theorem ahd{x c:Nat}(h:Ep st ops x c=true):NF st ops (Aq st ops) x c:=by
 unfold Ep at h
 simp only[Bool.and_eq_true,List.all_eq_true,List.mem_range,decide_eq_true_eq]at h
 obtain⟨⟨hs,hlt⟩,h⟩:=h
 have lt:∀{j:Nat} {oj:Oper},ops[j]?=some oj→j<ops.size:=fun hj=>(Array.getElem?_eq_some_iff.1 hj).1
 refine⟨hs,fun j oj hj=>?_,fun j oj hj=>?_,fun j oj hj=>?_,fun j oj ox hj hox=>?_,fun j oj hj=>?_,hlt⟩
 all_goals
  have hh:=h j (lt hj)
  simp only[hj,Bool.and_eq_true,List.all_eq_true,List.mem_range]at hh
  obtain⟨⟨⟨⟨h1,h2⟩,h3⟩,h4⟩,h5⟩:=hh
 ·intro e he hb
  have:=h1 e (by simpa using he)
  simpa[hb]using this
 ·intro i hi
  have:=h2 i hi
  simp only[List.any_eq_true,Bool.and_eq_true,Bool.or_eq_true,beq_iff_eq,List.contains_iff_mem]at this
  obtain⟨e,he,hb,hor⟩:=this
  exact⟨e,by simpa using he,hb,hor⟩
 ·intro i hi oi ho
  have:=h3 i hi
  simp only[ho,Bool.or_eq_true,List.any_eq_true,Bool.and_eq_true,beq_iff_eq,List.contains_iff_mem]at this
  rcases this with⟨e,he,hb,hor⟩|⟨ha,hor⟩
  ·exact .inl ⟨e,by simpa using he,hb,hor⟩
  ·exact .inr ⟨ha,by rcases hor with((h|h)|h)|h;exact .inl h;exact .inr (.inl h);exact .inr (.inr (.inl h));exact .inr (.inr (.inr h))⟩
 ·intro hci hix
  simp only[hox,Bool.or_eq_true,Bool.not_eq_true',Bool.and_eq_false_iff,decide_eq_false_iff_not,Bool.and_eq_true]at h5
  rcases h5 with(h5|h5)|h5
  ·exact absurd hci h5
  ·exact absurd hix h5
  ·exact h5
 ·intro NI hjc
  simp only[Bool.or_eq_true,beq_iff_eq,List.contains_iff_mem]at h4
  rcases h4 with((h4|h4)|h4)|h4
  ·exact absurd h4 NI
  ·exact absurd h4 hjc
  ·exact .inl h4
  ·exact .inr h4
def pick(l:List Oper):List Nat→List Oper
 | []=>[]
 |i::is=>match l[i]? with|some o=>o::pick l is|none=>pick l is
theorem Wv(l:List Oper):∀is,pick l is=is.filterMap (l.toArray[·]?)
 | []=>rfl
 |i::is=>by
  rw[pick,Wv l is]
  cases h:l[i]? with
  |none=>rw[List.filterMap_cons_none (by simpa using h)]
  |some o=>rw[List.filterMap_cons_some (by simpa using h)]
theorem ahe(l:List Oper):(List.range l.toArray.size).filterMap (l.toArray[·]?)=l:=by
 have:∀n,(List.range n).filterMap (fun i=>l.toArray[i]?)=l.take n:=by
  intro n
  induction n with
  |zero=>simp
  |succ n ih=>
   rw[List.range_succ,List.filterMap_append,ih]
   by_cases hn:n<l.length
   ·rw[List.take_succ_eq_append_getElem hn];simp[hn]
   ·simp[hn,List.take_of_length_le (show l.length≤n by omega),List.take_of_length_le (show l.length≤n+1 by omega)]
 rw[this];simp
theorem Wx{id:Nat}{Q':Exit→Act→World→Prop}{a:Act}{w:World}{l:List Oper}(S:World→Prop)(st:Oper→Bool)(x c:Nat)(idx:List Nat)(hm:P.follows .mixedOrders=true)(hB:Ep st l.toArray x c=true)(hi:mv x c (List.range l.toArray.size)=idx)
  (hS:S w.drew) (h:aF P l.toArray st S (fun a' w'=>Q' .normal a' w') l a w.drew) (h2:aF P l.toArray st S (fun a' w'=>Q' .normal a' w') (pick l idx) a w.drew):(Code.region id l.toArray true).wp P Q' a w:=by
 refine wp_region_any hm ?_
 exact ahc (P:=P) (S:=S) (Q:=fun a' w'=>Q' .normal a' w') (ahd hB) (Q':=Q') (fun _ _ h=>h) l.toArray.size (List.range l.toArray.size) (Array.replicate l.toArray.size false) a w.drew
  (by simp) List.pairwise_lt_range (by simp) (by intro j;simp;intro h;simp[h]) (by intro k o hk hkl;exfalso;rw[Array.getD_eq_getD_getElem?,Array.getElem?_replicate]at hkl;split at hkl<;>simp at hkl) hS (by rw[ahe];exact h) (fun _ _=>by rw[hi,←Wv];exact h2)
end
end Go.WW
namespace Go.WW
open Go.RowKit
theorem aA{X w3:World}{k:Nat}{o:Obj}(hb3:Below X.heap.size X w3)(hX:X.heap[k]?=some o):w3.heap[k]?=some o:=(hb3.block k (Array.getElem?_eq_some_iff.1 hX).1).trans hX
end Go.WW
namespace Go.Proofs.YtaghcadlgbnbdaaGreatDoor
open Go.RowKit Go.WW
end Go.Proofs.YtaghcadlgbnbdaaGreatDoor
namespace Go.WW
open Go.RowKit
section
variable {P:Program} {ops:Array Oper}
def fK(vs:Nat→Value):List (Nat×Tmp)→Act→Act
 | [],a=>a
 |x::r,a=>fK vs r (a.put (some x.2) (vs x.1))
theorem NJ(vs:Nat→Value)(L M:List (Nat×Tmp)):∀a,fK vs (L++M) a=fK vs M (fK vs L a):=by
 induction L with
 |nil=>intro a;rfl
 |cons x r ih=>intro a;exact ih _
theorem IA{vs vs':Nat→Value}{L:List (Nat×Tmp)}(h:∀x∈L,vs x.1=vs' x.1):∀a,fK vs L a=fK vs' L a:=by
 induction L with
 |nil=>intro a;rfl
 |cons x r ih=>
  intro a
  show fK vs r _=fK vs' r _
  rw[h x (by simp),ih fun y hy=>h y (by simp[hy])]
theorem ahf{vs:Nat→Value}{L M:List (Nat×Tmp)}(h:L.Perm M):(L.map (·.2)).Nodup→∀a,fK vs L a=fK vs M a:=by
 induction h with
 |nil=>intro _ a;rfl
 |cons x _ ih=>intro hd a;exact ih (List.nodup_cons.1 hd).2 _
 |swap x y l=>
  intro hd a
  show fK vs l _=fK vs l _
  have hne:y.2≠x.2:=by
   intro e
   have:=(List.nodup_cons.1 hd).1
   simp[e]at this
  rw[Act.put_comm a (vs y.1) (vs x.1) (fun d e1 e2=>hne (by simp at e1 e2;rw[e1,e2]))]
 |trans h1 _ ih1 ih2=>intro hd a;exact(ih1 hd a).trans (ih2 ((h1.map _).nodup_iff.1 hd) a)
theorem ahg{o:Oper}{vs:Nat→Value}{L:List (Nat×Tmp)}(hs:∀cs b,o.op≠.select cs b)(h:∀x∈L,x.2∉o.looksAt ops∧o.dst≠some x.2){w:World} :
  ∀(a:Act) (K:Act→World→Prop),o.wp P (fK vs L a) w K never↔o.wp P a w (fun a' w'=>K (fK vs L a') w') never:=by
 induction L with
 |nil=>intro a K;exact Iff.rfl
 |cons x r ih=>
  intro a K
  refine(ih (fun y hy=>h y (by simp[hy])) _ K).trans ?_
  exact nM (ops:=ops) hs (fun d e=>by cases e;exact(h x (by simp)).1) (fun d e=>by cases e;exact(h x (by simp)).2)
def Es(A:Nat→Value→World→Prop)(vs:Nat→Value)(w:World):List (Nat×Tmp)→Prop
 | []=>True
 |x::r=>A x.1 (vs x.1) w∧Es A vs w r
theorem Wy{A:Nat→Value→World→Prop}{vs:Nat→Value}{w:World}:∀{L:List (Nat×Tmp)},(∀x∈L,A x.1 (vs x.1) w)→Es A vs w L
 | [],_=>trivial
 |x::_,h=>⟨h x (by simp),Wy fun y hy=>h y (by simp[hy])⟩
def IB(P:Program)(A:Nat→Value→World→Prop)(W:World)(a0:Act)(i:Nat)(o:Oper)(d:List (Nat×Tmp)):Prop:=
 ∀(vs:Nat→Value) (w:World),Below W.heap.size W w→Es A vs w d→∀K:Act→World→Prop,(∀v a' w',a'=(fK vs d a0).put o.dst v→A i v w'→Below w.heap.size w w'→K a' w')→o.wp P (fK vs d a0) w K never
def Et(P:Program)(A:Nat→Value→World→Prop)(W:World)(a0:Act)(Q:Act→World→Prop)(o:Oper)(d:List (Nat×Tmp)):Prop:=
 ∀(vs:Nat→Value) (w:World),Below W.heap.size W w→Es A vs w d→o.wp P (fK vs d a0) w Q never
def Each(P:Program)(A:Nat→Value→World→Prop)(W:World)(a0:Act)(Q:Act→World→Prop):Nat→List Oper→List (List (Nat×Tmp))→Prop
 |_,[],_=>True
 |_,[o],D=>Et P A W a0 Q o (D.headD [])
 |i,o::o2::rest,D=>IB P A W a0 i o (D.headD [])∧Each P A W a0 Q (i+1) (o2::rest) D.tail
theorem vI{A:Nat→Value→World→Prop}{W:World}{a0:Act}{Q:Act→World→Prop}{i:Nat}{o o2:Oper}{rest:List Oper}{d:List (Nat×Tmp)}{D:List (List (Nat×Tmp))}(h:IB P A W a0 i o d)(hr:Each P A W a0 Q (i+1) (o2::rest) D):Each P A W a0 Q i (o::o2::rest) (d::D):=⟨h,hr⟩
theorem ahh{A:Nat→Value→World→Prop}{W:World}{a0:Act}{Q:Act→World→Prop}{i:Nat}{o:Oper}{d:List (Nat×Tmp)}(h:Et P A W a0 Q o d):Each P A W a0 Q i [o] [d]:=h
theorem Each.get{A:Nat→Value→World→Prop}{W:World}{a0:Act}{Q:Act→World→Prop}:∀(l:List Oper) (D:List (List (Nat×Tmp))) (k:Nat),Each P A W a0 Q k l D→∀i o,l[i]?=some o→
  (i+1<l.length→IB P A W a0 (k+i) o (D.getD i []))∧(i+1=l.length→Et P A W a0 Q o (D.getD i []))
 | [],_,_,_,i,o,h=>by simp at h
 | [o1],D,k,hE,i,o,h=>by
  cases i with
  |zero=>
   simp at h;subst h
   refine⟨fun h=>by simp at h,fun _=>?_⟩
   cases D<;>exact hE
  |succ i=>simp at h
 |o1::o2::rest,D,k,hE,i,o,h=>by
  cases i with
  |zero=>
   simp at h;subst h
   refine⟨fun _=>?_,fun h=>by simp at h⟩
   cases D<;>exact hE.1
  |succ i=>
   have:=Each.get (o2::rest) D.tail (k+1) hE.2 i o (by simpa using h)
   have e:D.tail.getD i []=D.getD (i+1) []:=by cases D<;>simp
   rw[e]at this
   refine⟨fun hi=>?_,fun hi=>this.2 (by simpa using hi)⟩
   have:=this.1 (by simpa using hi)
   rwa[show k+1+i=k+(i+1) by omega]at this
structure NK(ops:Array Oper)(D:List (List (Nat×Tmp))):Prop where
 kU:Region.noSelect ops=true
 guard:∀(j:Nat) (oj:Oper),ops[j]?=some oj→oj.guard=none
 back:∀(j:Nat) (oj:Oper),ops[j]?=some oj→∀e∈oj.after,Region.binds .any e=true→e.on<j
 WA:∀(j:Nat) (oj:Oper),ops[j]?=some oj→∀(i:Nat) (oi:Oper),ops[i]?=some oi→i≠j→∀d,oi.dst=some d→oj.dst≠some d
 deps:∀(j:Nat) (oj:Oper),ops[j]?=some oj→∀x∈D.getD j [],(∃o:Oper,ops[x.1]?=some o∧o.dst=some x.2)∧∃e∈oj.after,Region.binds .any e=true∧e.on=x.1
 nodup:∀(j:Nat) (oj:Oper),ops[j]?=some oj→(D.getD j []).Nodup
 looks:∀(j:Nat) (oj:Oper),ops[j]?=some oj→∀(i:Nat) (oi:Oper),ops[i]?=some oi→i≠j→∀d,oi.dst=some d→(i,d)∈D.getD j []∨(d∉oj.looksAt ops∧j+1<ops.size)
 last:∀(j:Nat) (oj:Oper),ops[j]?=some oj→j+1=ops.size→∀i,i<j→∃e∈oj.after,Region.binds .any e=true∧e.on=i
def NM(ops:Array Oper)(D:List (List (Nat×Tmp))):Bool:=
 Region.noSelect ops&&(List.range ops.size).all fun j=>match ops[j]? with
  |none=>true
  |some oj=>
   oj.guard.isNone&&
   oj.after.toList.all (fun e=>!Region.binds .any e || decide (e.on<j))&&
   (D.getD j []).all (fun x=>(match ops[x.1]? with|none=>false|some o=>o.dst == some x.2)&&oj.after.toList.any fun e=>Region.binds .any e&&e.on == x.1)&&
   decide ((D.getD j []).Nodup)&&
   ((List.range ops.size).all fun i=>i == j || match ops[i]? with
    |none=>true
    |some oi=>match oi.dst with
     |none=>true
     |some d=>oj.dst != some d&&((D.getD j []).contains (i,d) || (!(oj.looksAt ops).contains d&&decide (j+1<ops.size))))&&
   (decide (j+1<ops.size) || (List.range j).all fun i=>oj.after.toList.any fun e=>Region.binds .any e&&e.on == i)
theorem ahi{D:List (List (Nat×Tmp))}(h:NM ops D=true):NK ops D:=by
 unfold NM at h
 simp only[Bool.and_eq_true,List.all_eq_true,List.mem_range]at h
 obtain⟨hs,h⟩:=h
 have lt:∀{j:Nat} {oj:Oper},ops[j]?=some oj→j<ops.size:=fun hj=>(Array.getElem?_eq_some_iff.1 hj).1
 refine⟨hs,fun j oj hj=>?_,fun j oj hj=>?_,fun j oj hj=>?_,fun j oj hj=>?_,fun j oj hj=>?_,fun j oj hj=>?_,fun j oj hj=>?_⟩
 all_goals
  have hh:=h j (lt hj)
  simp only[hj,Bool.and_eq_true,List.all_eq_true,List.mem_range]at hh
  obtain⟨⟨⟨⟨⟨h1,h2⟩,h3⟩,h4⟩,h5⟩,h6⟩:=hh
 ·simpa using h1
 ·intro e he hb
  have:=h2 e (by simpa using he)
  simpa[hb]using this
 ·intro i oi hi hne d hd
  have:=h5 i (lt hi)
  simp only[hi,hd,Bool.or_eq_true,beq_iff_eq,Bool.and_eq_true,bne_iff_ne]at this
  rcases this with h'|h'
  ·exact absurd h' hne
  ·exact h'.1
 ·intro x hx
  have:=h3 x hx
  obtain⟨ha,hb⟩:=this
  simp only[List.any_eq_true,Bool.and_eq_true,beq_iff_eq]at hb
  obtain⟨e,he,hbe⟩:=hb
  refine⟨?_,e,by simpa using he,hbe⟩
  cases hx1:ops[x.1]? with
  |none=>simp[hx1]at ha
  |some o=>simp[hx1]at ha;exact⟨o,rfl,ha⟩
 ·simpa using h4
 ·intro i oi hi hne d hd
  have:=h5 i (lt hi)
  simp only[hi,hd,Bool.or_eq_true,beq_iff_eq,Bool.and_eq_true,bne_iff_ne,List.contains_iff_mem,Bool.not_eq_true',decide_eq_true_eq]at this
  rcases this with h'|⟨_,h'|⟨h',h''⟩⟩
  ·exact absurd h' hne
  ·exact .inl h'
  ·exact .inr ⟨by simpa using h',h''⟩
 ·intro hlast i hi
  simp only[Bool.or_eq_true,decide_eq_true_eq,List.all_eq_true,List.mem_range]at h6
  rcases h6 with h6|h6
  ·omega
  ·have:=h6 i hi
   simp only[List.any_eq_true,Bool.and_eq_true,beq_iff_eq]at this
   obtain⟨e,he,hb⟩:=this
   exact⟨e,by simpa using he,hb⟩
structure Came(ops:Array Oper)(A:Nat→Value→World→Prop)(W:World)(a0:Act)(listed:Array Bool)(a:Act)(w:World)(vs:Nat→Value)(L:List (Nat×Tmp)):Prop where
 base:Below W.heap.size W w
 nodup:L.Nodup
 mem:∀x,x∈L↔listed.getD x.1 false=true∧∃o:Oper,ops[x.1]?=some o∧o.dst=some x.2
 act:a=fK vs L a0
 each:∀i,listed.getD i false=true→A i (vs i) w
theorem ahj{D:List (List (Nat×Tmp))}(hok:NK ops D){L:List (Nat×Tmp)}(h:L.Nodup)(hm:∀x∈L,∃o:Oper,ops[x.1]?=some o∧o.dst=some x.2):(L.map (·.2)).Nodup:=by
 refine List.pairwise_map.2 (List.Pairwise.imp_of_mem (fun{x y} hx hy hne=>?_) h)
 intro e
 obtain⟨ox,hx1,hx2⟩:=hm x hx
 obtain⟨oy,hy1,hy2⟩:=hm y hy
 by_cases h1:x.1=y.1
 ·exact hne (Prod.ext h1 e)
 ·exact hok.WA y.1 oy hy1 x.1 ox hx1 h1 x.2 hx2 (by rw[hy2,e])
theorem ahk{Q':Exit→Act→World→Prop}{A:Nat→Value→World→Prop}{W:World}{a0:Act}{D:List (List (Nat×Tmp))}(hok:NK ops D)(hst:∀i v w w',A i v w→Below w.heap.size w w'→A i v w')
  (hstep:∀(i:Nat) (o:Oper),ops[i]?=some o→i+1<ops.size→IB P A W a0 i o (D.getD i [])) (hend:∀(i:Nat) (o:Oper),ops[i]?=some o→i+1=ops.size→Et P A W a0 (fun a' w'=>Q' .normal a' w') o (D.getD i [])) :
  ∀(n:Nat) (U:List Nat) (listed:Array Bool) (a:Act) (w:World),U.length=n+1→U.Pairwise (· < ·)→listed.size=ops.size→(∀j,j∈U↔j<ops.size∧listed.getD j true=false)→(∃vs L,Came ops A W a0 listed a w vs L)→ops.size-1∈U→wpAny P .any ops Q' (n+1) listed a w:=by
 intro n
 induction n using Nat.strongRecOn with
 |_ n ih=>
  intro U listed a w hn hsort hsz hU hI hlu
  obtain⟨vs,L,hC⟩:=hI
  have NP:∀{j:Nat},j<ops.size→(listed.getD j false=true↔¬listed.getD j true=false):=fun{j} hj=>by
   have:j<listed.size:=by omega
   simp[this]
  refine⟨fun hr=>?_,fun i hi=>?_⟩
  ·exfalso
   cases U with
   |nil=>simp at hn
   |cons j U=>
    obtain⟨hj,hjl⟩:=(hU j).1 (by simp)
    have hoj:ops[j]?=some ops[j]:=by simp[hj]
    have:j∈Region.ready .any ops listed:=by
     refine mem_ready.2 ⟨hjl,_,hoj,fun e he hb=>?_⟩
     have hlt:=hok.back j _ hoj e he hb
     have hnot:e.on∉j::U:=by
      intro hmem
      rcases List.mem_cons.1 hmem with h1|h1
      ·omega
      ·have:=(List.pairwise_cons.1 hsort).1 _ h1;omega
     exact(NP (by omega)).2 fun hf=>hnot ((hU e.on).2 ⟨by omega,hf⟩)
    rw[hr]at this;cases this
  ·obtain⟨h0,o,ho,hall⟩:=mem_ready.1 hi
   have his:i<ops.size:=(Array.getElem?_eq_some_iff.1 ho).1
   have hiU:i∈U:=(hU i).2 ⟨his,h0⟩
   have hil:¬listed.getD i false=true:=fun h=>(NP his).1 h h0
   have hsel:=(Region.noSelect_spec hok.kU i o · · ho)
   have hdl:∀x∈D.getD i [],listed.getD x.1 false=true∧∃o:Oper,ops[x.1]?=some o∧o.dst=some x.2:=fun x hx=>by
    obtain⟨h1,e,he,hb,e1⟩:=hok.deps i o ho x hx
    exact⟨e1▸hall e he hb,h1⟩
   have hwant:Region.wanted o (yielded ops a.tmps)=true:=by simp[Region.wanted,hok.guard i o ho]
   obtain⟨R,hR⟩:∃R,R=L.filter (fun x=>decide (x∉D.getD i [])):=⟨_,rfl⟩
   have IC:∀x,x∈R↔x∈L∧x∉D.getD i []:=fun x=>by rw[hR,List.mem_filter];simp
   have hnd:(D.getD i []++R).Nodup:=by
    refine List.nodup_append.2 ⟨hok.nodup i o ho,by rw[hR];exact hC.nodup.filter _,fun x hx y hy e=>?_⟩
    subst e
    exact((IC x).1 hy).2 hx
   have hmem:∀x,x∈D.getD i []++R↔x∈L:=fun x=>by
    rw[List.mem_append,IC,hC.mem]
    constructor
    ·rintro(h|h)
     ·exact hdl x h
     ·exact h.1
    ·intro h
     by_cases hx:x∈D.getD i []
     ·exact .inl hx
     ·exact .inr ⟨h,hx⟩
   have hperm:L.Perm (D.getD i []++R):=(List.perm_ext_iff_of_nodup hC.nodup hnd).2 fun x=>(hmem x).symm
   have hact:a=fK vs R (fK vs (D.getD i []) a0):=by
    rw[hC.act,ahf hperm (ahj hok hC.nodup fun x hx=>((hC.mem x).1 hx).2),NJ]
   have WB:Es A vs w (D.getD i []):=Wy fun x hx=>hC.each x.1 (hdl x hx).1
   unfold wpOp
   simp only[ho,hwant,if_true]
   refine .inl (tK ?_)
   rw[hact]
   rcases Nat.lt_or_ge (i+1) ops.size with hlt|hge
   ·have hR1:∀x∈R,x.2∉o.looksAt ops∧o.dst≠some x.2:=fun x hx=>by
     obtain⟨hxL,NQ⟩:=(IC x).1 hx
     obtain⟨hxl,ox,hox,qg⟩:=(hC.mem x).1 hxL
     have hne:x.1≠i:=fun e=>hil (e▸hxl)
     refine⟨?_,hok.WA i o ho x.1 ox hox hne x.2 qg⟩
     rcases hok.looks i o ho x.1 ox hox hne x.2 qg with h1|h1
     ·exact absurd h1 NQ
     ·exact h1.1
    refine(ahg (P:=P) (ops:=ops) hsel hR1 _ _).2 (hstep i o ho hlt vs w hC.base WB _ fun v a' w' ha' hv hb=>?_)
    subst ha'
    have hiL:∀x∈D.getD i []++R,x.1≠i:=fun x hx e=>hil (e▸((hC.mem x).1 ((hmem x).1 hx)).1)
    obtain⟨U1,U2,rfl⟩:=List.append_of_mem hiU
    have dQ:=List.pairwise_append.1 hsort
    have hlt1:∀x∈U1,x<i:=fun x hx=>dQ.2.2 x hx i (by simp)
    have hgt2:∀x∈U2,i<x:=fun x hx=>(List.pairwise_cons.1 dQ.2.1).1 x hx
    have WC:ops.size-1∈U1++U2:=by
     rcases List.mem_append.1 hlu with h|h
     ·simp[h]
     ·rcases List.mem_cons.1 h with h|h
      ·omega
      ·simp[h]
    have hpos:0<(U1++U2).length:=List.length_pos_of_mem WC
    obtain⟨m,rfl⟩:∃m,n=m+1:=⟨n-1,by simp at hn hpos;omega⟩
    refine ih m (by omega) (U1++U2) _ _ _ (by simp at hn ⊢;omega) ?_ (by simpa using hsz) ?_ ?_ WC
    ·exact List.pairwise_append.2 ⟨dQ.1,(List.pairwise_cons.1 dQ.2.1).2,fun x hx y hy=>dQ.2.2 x hx y (by simp[hy])⟩
    ·intro j
     by_cases hji:j=i
     ·subst hji
      constructor
      ·intro hm
       exfalso
       rcases List.mem_append.1 hm with h1|h1
       ·have:=hlt1 _ h1;omega
       ·have:=hgt2 _ h1;omega
      ·rintro⟨_,hf⟩
       have:j<listed.size:=by omega
       simp[this]at hf
     ·rw[getD_set_ne true (Ne.symm hji),←hU j]
      simp[hji]
    ·obtain⟨vs',hvs⟩:∃vs':Nat→Value,vs'=fun k=>if k=i then v else vs k:=⟨_,rfl⟩
     have hsame:∀k,k≠i→vs k=vs' k:=fun k hk=>by rw[hvs];simp[hk]
     have WE:vs' i=v:=by rw[hvs];simp
     have hl':∀k,(listed.setIfInBounds i true).getD k false=true↔(k=i∨listed.getD k false=true):=fun k=>by
      by_cases hk:k=i
      ·subst hk
       have:k<listed.size:=by omega
       simp[this]
      ·rw[getD_set_ne false (Ne.symm hk)];simp[hk]
     have WG:∀k,(listed.setIfInBounds i true).getD k false=true→A k (vs' k) w':=fun k hk=>by
      rcases(hl' k).1 hk with rfl|hk1
      ·rw[WE];exact hv
      ·by_cases e:k=i
       ·subst e;exact absurd hk1 hil
       ·rw[←hsame k e];exact hst _ _ _ _ (hC.each k hk1) hb
     cases hd:o.dst with
     |none=>
      refine⟨vs',D.getD i []++R,ag hC.base hb,hnd,fun x=>?_,?_,WG⟩
      ·rw[hmem,hC.mem,hl']
       constructor
       ·exact fun h=>⟨.inr h.1,h.2⟩
       ·rintro⟨rfl|h1,h2⟩
        ·obtain⟨o',ho',hd'⟩:=h2
         rw[ho]at ho';cases ho'
         rw[hd]at hd';cases hd'
        ·exact⟨h1,h2⟩
      ·rw[NJ,←IA (L:=D.getD i []) fun x hx=>hsame _ (hiL x (List.mem_append_left _ hx)),←IA (L:=R) fun x hx=>hsame _ (hiL x (List.mem_append_right _ hx))]
       rfl
     |some d=>
      have hnew:(i,d)∉D.getD i []++R:=fun h=>hiL _ h rfl
      refine⟨vs',D.getD i []++(i,d)::R,ag hC.base hb,?_,fun x=>?_,?_,WG⟩
      ·have hp:((i,d)::(D.getD i []++R)).Perm (D.getD i []++(i,d)::R):=List.perm_middle.symm
       exact hp.nodup_iff.1 (List.nodup_cons.2 ⟨hnew,hnd⟩)
      ·have:x∈D.getD i []++(i,d)::R↔x=(i,d)∨x∈D.getD i []++R:=by
        simp only[List.mem_append,List.mem_cons]
        constructor
        iterate 2
         ·rintro(h|h|h)
          ·exact .inr (.inl h)
          ·exact .inl h
          ·exact .inr (.inr h)
       rw[this,hmem,hC.mem,hl']
       constructor
       ·rintro(rfl|h)
        ·exact⟨.inl rfl,o,ho,hd⟩
        ·exact⟨.inr h.1,h.2⟩
       ·rintro⟨h1|h1,h2⟩
        ·obtain⟨o',ho',hd'⟩:=h2
         rw[h1,ho]at ho';cases ho'
         rw[hd]at hd';cases hd'
         exact .inl (Prod.ext h1 rfl)
        ·exact .inr ⟨h1,h2⟩
      ·rw[NJ,←IA (L:=D.getD i []) fun x hx=>hsame _ (hiL x (List.mem_append_left _ hx))]
       show _=fK vs' R ((fK vs (D.getD i []) a0).put (some d) (vs' i))
       rw[WE,←IA (L:=R) fun x hx=>hsame _ (hiL x (List.mem_append_right _ hx))]
   ·have WH:i+1=ops.size:=by omega
    have hR0:R=[]:=by
     refine List.eq_nil_iff_forall_not_mem.2 fun x hx=>?_
     obtain⟨hxL,NQ⟩:=(IC x).1 hx
     obtain⟨hxl,ox,hox,qg⟩:=(hC.mem x).1 hxL
     rcases hok.looks i o ho x.1 ox hox (fun e=>hil (e▸hxl)) x.2 qg with h1|h1
     ·exact NQ h1
     ·omega
    have WI:∀j∈U,j=i:=fun j hj=>by
     obtain⟨h1,h2⟩:=(hU j).1 hj
     rcases Nat.lt_or_ge j i with h3|h3
     ·obtain⟨e,he,hb,rfl⟩:=hok.last i o ho WH j h3
      exact absurd h2 ((NP h1).1 (hall e he hb))
     ·omega
    obtain rfl:n=0:=by
     match U,hn,hsort,WI with
     | [],hn,_,_=>simp at hn
     | [_],hn,_,_=>simp at hn;exact hn
     |x::y::r,_,hs,hu=>
      have h1:=hu x (by simp)
      have h2:=hu y (by simp)
      have:=(List.pairwise_cons.1 hs).1 y (by simp)
      omega
    rw[hR0]
    refine Oper.wp_mono (fun a' w' hq=>⟨?_,hq⟩) (hend i o ho WH vs w hC.base WB)
    cases hr:Region.ready .any ops (listed.setIfInBounds i true)with
    |nil=>rfl
    |cons j r=>
     have hj:j∈Region.ready .any ops (listed.setIfInBounds i true):=by rw[hr];simp
     obtain⟨hj0,oj,hoj,_⟩:=mem_ready.1 hj
     have hjs:j<ops.size:=(Array.getElem?_eq_some_iff.1 hoj).1
     by_cases hji:j=i
     ·subst hji
      have:j<listed.size:=by omega
      simp[this]at hj0
     ·rw[getD_set_ne true (Ne.symm hji)]at hj0
      exact absurd (WI j ((hU j).2 ⟨hjs,hj0⟩)) hji
theorem ahn{id:Nat}{Q':Exit→Act→World→Prop}{a:Act}{W w:World}{l:List Oper}(A:Nat→Value→World→Prop)(D:List (List (Nat×Tmp)))(hW:Below W.heap.size W w)(hm:P.follows .mixedOrders=true)(hB:NM l.toArray D=true)(hp:0<l.length)
  (hst:∀i v w w',A i v w→Below w.heap.size w w'→A i v w') (h:Each P A W a (fun a' w'=>Q' .normal a' w') 0 l D):(Code.region id l.toArray true).wp P Q' a w:=by
 refine wp_region_any hm ?_
 have hg:=Each.get l D 0 h
 obtain⟨n,hn⟩:∃n,l.length=n+1:=⟨l.length-1,by omega⟩
 have:=ahk (P:=P) (Q':=Q') (ahi hB) hst (fun i o ho hi=>by have:=(hg i o (by simpa using ho)).1 (by simpa using hi);rwa[Nat.zero_add]at this) (fun i o ho hi=>(hg i o (by simpa using ho)).2 (by simpa using hi)) n (List.range l.toArray.size) (Array.replicate l.toArray.size false) a w.drew
  (by simp[hn]) List.pairwise_lt_range (by simp) (by intro j;simp;intro h;simp[h]) ⟨fun _=>undef,[],hW.drew,List.nodup_nil,fun x=>?_,rfl,fun i hi=>?_⟩ (by simp;omega)
 ·rw[show n+1=l.toArray.size by simp[hn]]at this;exact this
 ·simp only[List.not_mem_nil,false_iff]
  rintro⟨hi,-⟩
  rw[Array.getD_eq_getD_getElem?,Array.getElem?_replicate]at hi;split at hi<;>simp at hi
 ·rw[Array.getD_eq_getD_getElem?,Array.getElem?_replicate]at hi;split at hi<;>simp at hi
end
end Go.WW
namespace Go.WW
open Go.RowKit
theorem Below.aho{w w':World}{row:Option Nat}(h:w.grownBy w' row)(hr:∀k,k<w.heap.size→row=some k→w'.heap[k]?=w.heap[k]?):Below w.heap.size w w':=
 But.below (S:=fun _=>False) ⟨h.os,h.tape,h.output,h.size,fun k hk _=>by
  by_cases e:row=some k
  ·exact hr k hk e
  ·exact h.block k hk fun e'=>e e'.symm⟩ (Nat.le_refl _) (fun k hk=>hk.elim)
theorem ahp{P:Program}{o:Oper}{a:Act}{w:World}{K:Act→World→Prop}{Q:Exit→Act→World→Prop}(x y:Operand)(t:TypeId)(ho:o.op=.call {callee:=.builtin .append,args:=#[x,y],argTypes:=#[t,t]})
  {e:TypeId} {k bytes:Nat} (he:gJ P t e k bytes) {base:Nat} {s:Sl} {rows:List (Array Value)} (hx:a.eval x=.slice s.a rows.length s.cap) (h:Own w base e k s rows) {A:Option Addr} {news:List (Array Value)} {m c:Nat}
  (hy:a.eval y=.slice A m c) (hm:m=news.length) (hs:bJ w k A news) (hlen:(rows.length+news.length)*(bytes+1)≤140737488355328) (hbase:base≤w.heap.size) (hfull:s.cap<rows.length+news.length∨news=[])
  (hK:∀(s':Sl) w',Own w' base e k s' (rows++news)→Below w.heap.size w w'→K (a.put o.dst (.slice s'.a (rows.length+news.length) s'.cap)) w'):o.wp P a w K Q:=by
 subst hm
 obtain⟨s',w',hrun,h2,h3,h4⟩:=TD (ty:=o.type) he w h c hs hlen hbase
 have hB:Below w.heap.size w w':=by
  refine Below.aho h3 fun k hk hbk=>?_
  obtain⟨i,z,hi,hz,h1,hby,hzs⟩:=he.info
  rcases Nat.eq_zero_or_pos news.length with hn|hn
  ·obtain rfl:news=[]:=List.eq_nil_of_length_eq_zero hn
   have hle:rows.length≤s.cap:=by
    rcases h.own.2 with⟨hv,hn⟩|⟨g,cap,cur,hv,_,_,hnc,_⟩
    ·omega
    ·injection hv with _ _ hc;omega
   have hr:=run_append_nothing (P:=P) w t t o.type e i he.und hi s.a rows.length s.cap hle (.slice A 0 c) (by
    cases A with
    |none=>exact Src.ofNil w he.und c
    |some ad=>exact Src.ofSlice w he.und ad 0 c [] (by simp) (by simp) (by simp))
   have hrun':=hr.symm.trans hrun
   injection hrun' with _ e2
   rw[←e2]
  ·rcases hfull with hfull|rfl
   ·obtain⟨b,ob,hA,hcs⟩:=hs.cells he.pos hn
    rcases h.own.2 with⟨hv,_⟩|⟨g,cap,cur,hv,h5⟩
    ·have:s.a=none:=by injection hv
     simp[Sl.blk,this]at hbk
    ·have ha:s.a=some ⟨g,0,none⟩:=by injection hv
     have holds:∀j u,(flat rows)[j]?=some u→w.cell? ((⟨g,0,none⟩:Addr).add j)=some u:=h.own.cells (g:=g) (by rw[Aw];simp[Sl.blk,ha])
     have hr:=run_append_grow (P:=P) w t o.type e i z he.und hi hz ⟨g,0,none⟩ rows.length s.cap (flat rows) (by rw[h1];exact h.own.1) holds ⟨b,ob,none⟩ news.length c (flat news) (by rw[h1];exact flat_length hs.size) hcs hfull (by
      have:rows.length+news.length≤(rows.length+news.length)*(bytes+1):=Nat.le_mul_of_pos_right _ (by omega)
      omega) (growslice_fits (by omega) (by rw[hby];exact Nat.le_trans (Nat.mul_le_mul_left _ (by omega)) hlen))
     rw[←ha,←hA,hrun]at hr
     injection hr with _ e2
     rw[e2]
     exact(heap_alloc_old w.drew _ hk).trans rfl
   ·simp at hn
 unfold Oper.wp execOp
 simp only[ho,resolve,invoke,builtin,Sem.run_bind,Sem.run_pure,Result.andThen_ok,List.map_toArray,List.map_cons,List.map_nil,hx,hy,hrun]
 exact hK s' w' h2 hB
theorem ahq{s s':Sl}{p:aB}(h:ak s p=ak s' p):s=s':=by
 have:=congrArg (·[0]?) h
 simp[ak]at this
 cases s;cases s';simp at this;simp[this]
theorem ahr{w:World}{S:Nat→Prop}{a:Option Addr}{l:List aB}(h:aZ w S (fun x=>eG x a l)):∃X:List PP,X.map (·.2)=l∧aZ w S (fun x=>tZ x a X):=by
 rcases Nat.eq_zero_or_pos l.length with h0|h0
 ·obtain rfl:l=[]:=List.eq_nil_of_length_eq_zero h0
  exact⟨[],rfl,fun x _=>⟨by simp,by simp,by simp⟩⟩
 obtain⟨b,o,s0,rfl,hr0,_⟩:=h.out.get 0 h0
 have hSb:S b:=by
  refine Classical.byContradiction fun hn=>?_
  have hx:=h (w.putObj b (.deferred none)) fun k hk=>World.putObj_heap_other (fun e=>hn (e▸hk))
  obtain⟨s,hr,_⟩:=hx.at 0 h0
  unfold row? at hr
  rw[World.putObj_heap_same (gq hr0)]at hr
  cases hr
 have hs:∀i:Fin l.length,∃s,row? w b (o+i.1*2) 2=some (ak s l[i.1])∧bg w s l[i.1]:=fun i=>h.out.at i.1 i.2
 obtain⟨f,hf⟩:=Classical.axiomOfChoice hs
 refine⟨List.ofFn (fun i:Fin l.length=>(f i,l[i.1])),?_,fun x hx=>?_⟩
 ·rw[List.map_ofFn]
  exact List.ofFn_getElem
 ·have hp:=h x hx
  have hrow:∀i (hi:i<l.length),row? x b (o+i*2) 2=some (ak (f ⟨i,hi⟩) l[i]):=fun i hi=>(fO (hx b hSb) _ _).trans (hf ⟨i,hi⟩).1
  refine⟨by have:=hp.1;simp;omega,fun i hi=>⟨b,o,rfl,?_⟩,fun y hy=>?_⟩
  ·simp at hi
   rw[hrow i hi]
   simp[yJ]
  ·obtain⟨i,hi,rfl⟩:=List.getElem_of_mem hy
   simp at hi
   obtain⟨s,h1,h2⟩:=hp.at i hi
   rw[hrow i hi]at h1
   have:=ahq (Option.some.inj h1)
   simp[this]
   exact h2
theorem tZ.box{y x:World}{a:Option Addr}{X:List PP}{b:Nat}{t:TypeId}(h:tZ y a X)(hb:y.heap[b]?=some (.cells #[.slice none 0 0] t))(hx:∀k,k≠b→x.heap[k]?=y.heap[k]?):tZ x a X:=by
 refine⟨h.len,fun i hi=>?_,fun p hp=>?_⟩
 ·obtain⟨g,o,ha,hr⟩:=h.rows i hi
  refine⟨g,o,ha,(fO (hx g ?_) _ _).trans hr⟩
  rintro rfl
  rw[bV hb]at hr
  unfold eQ at hr
  rw[if_neg (by simp)]at hr
  cases hr
 ·obtain⟨⟨h1,h2⟩,h3⟩:=h.each p hp
  refine⟨⟨h1,fun i hi=>?_⟩,h3⟩
  obtain⟨g,o,v,ha,hc,s,hs,rfl,hl⟩:=h2 i hi
  refine⟨g,o,_,ha,(World.cell?_of_block (a:=⟨g,o+i,none⟩) (hx g ?_)).trans hc,s,hs,rfl,hl⟩
  rintro rfl
  obtain⟨hcc,-⟩:=ai hb
  have:=(hcc (o+i)).symm.trans hc
  rcases Nat.eq_zero_or_pos (o+i)with e|e
  ·rw[e]at this;cases this
  ·rw[Array.getElem?_eq_none (by simp;omega)]at this;cases this
theorem own_base{w:World}{base base':Nat}{e:TypeId}{k:Nat}{v:Value}{n:Nat}{xs:List Value}(h:w.ownsRow base e k v n xs)(hb:base'≤base):w.ownsRow base' e k v n xs:=by
 refine⟨h.1,?_⟩
 rcases h.2 with h|⟨g,cap,cur,h1,h2,h3⟩
 ·exact .inl h
 ·exact .inr ⟨g,cap,cur,h1,Nat.le_trans hb h2,h3⟩
end Go.WW
namespace Go.Proofs.YtaghcadlgbnbdaaGreatDoor
open Go.RowKit Go.WW
def xI(W:World)(B:Nat)(r:aI)(d:Entry):Nat→Value→World→Prop
 |0,v,_=>v=.pointer (some ⟨B,0,none⟩)
 |1,v,_=>v=.agg (ak r.parts d.name)
 |2,v,y=>∃s,v=.agg (ak s d.name)∧aZ y (fresh W.heap.size y) (fun x=>bg x s d.name)
 |3,v,y=>∃s g,v=.slice (some ⟨g,0,none⟩) 1 1∧Go.WW.Own y W.heap.size 25 2 ⟨some ⟨g,0,none⟩,1⟩ [ak s d.name]∧aZ y (fresh W.heap.size y) (fun x=>bg x s d.name)
 |4,v,_=>v=.pointer (some ⟨B,2,none⟩)
 |5,v,_=>v=.slice r.aliases.a d.aliases.length r.aliases.cap
 |6,v,y=>∃s:Sl,v=.slice s.a d.aliases.length s.cap∧aZ y (fresh W.heap.size y) (fun x=>eG x s.a d.aliases)
 |7,v,y=>∃(s:Sl) (X:List PP),v=.slice s.a X.length s.cap∧X.map (·.2)=d.name::d.aliases∧aZ y (fresh W.heap.size y) (fun x=>tZ x s.a X)
 |8,v,y=>∃b,v=.pointer (some ⟨b,0,none⟩)∧W.heap.size≤b∧y.heap[b]?=some (.cells #[.slice none 0 0] 26)
 |_,_,_=>True
theorem yU{W y y':World}{Φ:World→Prop}(h:aZ y (fresh W.heap.size y) Φ)(hb:Below y.heap.size y y'):aZ y' (fresh W.heap.size y') Φ:=
 h.to (fun k hk=>hb.block k hk.2) (fun _ hk=>⟨hk.1,Nat.lt_of_lt_of_le hk.2 hb.size⟩)
theorem ahs(W:World)(B:Nat)(r:aI)(d:Entry):∀i v w w',xI W B r d i v w→Below w.heap.size w w'→xI W B r d i v w'
 |0,_,_,_,h,_=>h
 |1,_,_,_,h,_=>h
 |2,_,_,_,⟨s,h1,h2⟩,hb=>⟨s,h1,yU h2 hb⟩
 |3,_,_,_,⟨s,g,h1,h2,h3⟩,hb=>⟨s,g,h1,h2.kept fun _ hk=>hb.block _ (h2.base hk).2,yU h3 hb⟩
 |4,_,_,_,h,_=>h
 |5,_,_,_,h,_=>h
 |6,_,_,_,⟨s,h1,h2⟩,hb=>⟨s,h1,yU h2 hb⟩
 |7,_,_,_,⟨s,X,h1,h2,h3⟩,hb=>⟨s,X,h1,h2,yU h3 hb⟩
 |8,_,_,_,⟨b,h1,h2,h3⟩,hb=>⟨b,h1,h2,aA hb h3⟩
 |_+9,_,_,_,_,_=>trivial
theorem aht{W:World}{B:Nat}{r:aI}{d:Entry}{a0:Act}{Q:Act→World→Prop}{o:Oper}
  (h:∀vs y (s:Sl) (X:List PP) b,Below W.heap.size W y→vs 7=.slice s.a X.length s.cap→X.map (·.2)=d.name::d.aliases→aZ y (fresh W.heap.size y) (fun x=>tZ x s.a X)→vs 8=.pointer (some ⟨b,0,none⟩)→W.heap.size≤b→y.heap[b]?=some (.cells #[.slice none 0 0] 26)→
   o.wp Tryz.prog (fK vs [(0,4),(1,5),(2,6),(3,7),(4,8),(5,9),(6,10),(7,11),(8,3)] a0) y Q never):Et Tryz.prog (xI W B r d) W a0 Q o [(0,4),(1,5),(2,6),(3,7),(4,8),(5,9),(6,10),(7,11),(8,3)]:=by
 intro vs y hy hA
 obtain⟨s,X,h7,IE,hd⟩:=hA.2.2.2.2.2.2.2.1
 obtain⟨b,h8,WJ,hb8⟩:=hA.2.2.2.2.2.2.2.2.1
 exact h vs y s X b hy h7 IE hd h8 WJ hb8
theorem NR(r:aI)(d:Entry)(w:World)(he:bz w r d):Calls Tryz.prog 54 #[.agg (ae r d)] w fun e w'=>∃(b:Nat) (s:Sl) (X:List PP),e=.returned (.func (.func 109) #[] #[.pointer (some ⟨b,0,none⟩)])∧Below w.heap.size w w'∧w.heap.size≤b∧w'.heap[b]?=some (.cells #[.slice s.a X.length s.cap] 26)∧X.map (·.2)=d.name::d.aliases∧aZ w' (fresh w.heap.size w') (fun x=>tZ x s.a X):=by
 have hB:Below w.heap.size w (w.alloc (.cells (ae r d) 32)):=(Below.refl _ _).alloc (Nat.le_refl _) _
 have hx3:(w.alloc (.cells (ae r d) 32)).heap[w.heap.size]?=some (.cells (ae r d) 32):=World.alloc_heap_new _ _
 have hW:w.heap.size<(w.alloc (.cells (ae r d) 32)).heap.size:=by simp
 go_enter Tryz.func54,Tryz.ntmps54
 go_wp2_with fail
 have he':=he.later hB
 generalize (w.alloc (.cells (ae r d) 32))=W at *
 have hx2:row? W w.heap.size 0 2=some (ak r.parts d.name):=by rw[bV hx3];rfl
 obtain⟨hc0,hf0,hr0,hl0⟩:=ai hx3
 refine ahn (xI W w.heap.size r d) [[],[(0,4)],[(1,5)],[(2,6)],[],[(4,8)],[(5,9)],[(3,7),(6,10)],[],[(0,4),(1,5),(2,6),(3,7),(4,8),(5,9),(6,10),(7,11),(8,3)]] (Below.refl _ W) (by kernel_rfl) (by kernel_rfl) (by simp) (ahs _ _ _ _) ?_
 refine vI ?_ (vI ?_ (vI ?_ (vI ?_ (vI ?_ (vI ?_ (vI ?_ (vI ?_ (vI ?_ (ahh ?_)))))))))
 ·intro vs y hy hA K hK
  simp only[fK]at hK ⊢
  go_wp2_with fail
  exact hK _ _ _ rfl rfl (Below.refl _ _)
 ·intro vs y hy hA K hK
  have h0:=hA.1
  simp only[fK]at hK ⊢
  simp only[xI]at h0
  rw[h0]at hK ⊢
  have hr2:=(fO (hy.block _ hW) _ _).trans hx2
  clear hx2
  go_wp2_with fail
  exact hK _ _ _ rfl rfl (Below.refl _ _)
 ·intro vs y hy hA K hK
  have h0:=hA.1
  simp only[fK]at hK ⊢
  simp only[xI]at h0
  rw[h0]at hK ⊢
  go_wp2_with fail
  refine(Vq _ _ _ (he'.name.later hy)).mono ?_
  rintro e y2 ⟨s,rfl,hb,hd⟩
  dsimp only
  exact hK _ _ _ rfl ⟨s,rfl,hd.to (fun _ _=>rfl) (fun k hk=>⟨Nat.le_trans hy.size hk.1,hk.2⟩)⟩ hb
 ·intro vs y hy hA K hK
  obtain⟨s,h0,hd⟩:=hA.1
  simp only[fK]at hK ⊢
  rw[h0]at hK ⊢
  go_wp2_with fail
  have ho:=Own.one y (ak s d.name) 25 2 (by simp[go_sem])
  exact hK _ _ _ rfl ⟨s,y.heap.size,rfl,⟨own_base ho.own hy.size,ho.size⟩,yU hd ((Below.refl _ _).alloc (Nat.le_refl _) _)⟩ ((Below.refl _ _).alloc (Nat.le_refl _) _)
 ·intro vs y hy hA K hK
  simp only[fK]at hK ⊢
  go_wp2_with fail
  exact hK _ _ _ rfl rfl (Below.refl _ _)
 ·intro vs y hy hA K hK
  have h0:=hA.1
  simp only[fK]at hK ⊢
  simp only[xI]at h0
  rw[h0]at hK ⊢
  obtain⟨hc,hf,hr⟩:=bf hy
  go_wp2_with fail
  exact hK _ _ _ rfl rfl (Below.refl _ _)
 ·intro vs y hy hA K hK
  have h0:=hA.1
  simp only[fK]at hK ⊢
  simp only[xI]at h0
  rw[h0]at hK ⊢
  go_wp2_with fail
  refine(Nw _ _ _ _ (he'.aliases.later hy)).mono ?_
  rintro e y2 ⟨s,rfl,hb,hd⟩
  dsimp only
  exact hK _ _ _ rfl ⟨s,rfl,hd.to (fun _ _=>rfl) (fun k hk=>⟨Nat.le_trans hy.size hk.1,hk.2⟩)⟩ hb
 ·intro vs y hy hA K hK
  obtain⟨s,g,h0,hown,hd⟩:=hA.1
  obtain⟨s6,h6,hd6⟩:=hA.2.1
  simp only[fK]at hK ⊢
  rw[h0,h6]at hK ⊢
  obtain⟨X6,WL,NS⟩:=ahr hd6
  have yV:d.aliases.length=X6.length:=by rw[←WL];simp
  refine ahp (.tmp 7) (.tmp 10) 26 rfl Bd (s:=⟨some ⟨g,0,none⟩,1⟩) (rows:=[ak s d.name]) rfl hown (A:=s6.a) (news:=X6.map yJ) (m:=d.aliases.length) (c:=s6.cap) rfl (by simp[yV]) ⟨?_,?_,?_⟩ ?_ hy.size ?_ ?_
  iterate 2
   ·intro q hq
    obtain⟨p,_,rfl⟩:=List.mem_map.1 hq
    simp[yJ,go_sem]
  ·intro i hi
   obtain⟨b,o,e1,e2⟩:=NS.out.rows i (by simpa using hi)
   exact⟨b,o,e1,by simpa using e2⟩
  ·have:=NS.out.len
   simp[lim]at this ⊢
   omega
  ·rcases Nat.eq_zero_or_pos X6.length with e|e
   ·right
    rw[List.eq_nil_of_length_eq_zero e];rfl
   ·left
    simp;omega
  ·intro s' y2 hown' hb
   refine hK (.slice s'.a ([ak s d.name].length+(X6.map yJ).length) s'.cap) _ _ rfl ⟨s',(s,d.name)::X6,by simp[Nat.add_comm],by simp[WL],fun x hx=>⟨?_,fun i hi=>?_,fun p hp=>?_⟩⟩ hb
   ·have:=hd6.out.1
    rw[yV]at this
    simp;omega
   ·obtain⟨gg,e1,-,e2⟩:=(hown'.kept fun k hk=>hx k (hown'.base hk)).row i (by simp at hi ⊢;omega)
    refine⟨gg,0,e1,e2.trans ?_⟩
    cases i with
    |zero=>rfl
    |succ i=>simp
   ·rcases List.mem_cons.1 hp with rfl|hp
    ·exact yU hd hb x hx
    ·exact(yU NS hb x hx).each p hp
 ·intro vs y hy hA K hK
  simp only[fK]at hK ⊢
  go_wp2_with fail
  exact hK _ _ _ rfl ⟨y.heap.size,rfl,hy.size,World.alloc_heap_new _ _⟩ ((Below.refl _ _).alloc (Nat.le_refl _) _)
 ·refine aht ?_
  intro vs y s X b hy h7 IE hd h8 WJ hb8
  simp only[fK]
  rw[h7,h8]
  have hc:=(ai hb8).1
  have hf:=(ai hb8).2.1
  have hl:=(ai hb8).2.2.2
  clear hc0 hf0 hr0 hl0
  go_wp2_with fail
  have hWs:=hB.size
  have hset:=cZ (o:=0) (.slice s.a X.length s.cap) hb8
  have hoth:∀k,k≠b→(y.setCell ⟨b,0,none⟩ (.slice s.a X.length s.cap)).heap[k]?=y.heap[k]?:=fun k hk=>Below.heap_setCell _ _ _ _ hk
  have hbel:Below w.heap.size w (y.setCell ⟨b,0,none⟩ (.slice s.a X.length s.cap)):=(ag hB hy).setCell (show w.heap.size≤b by omega) _
  have hsz:(y.setCell ⟨b,0,none⟩ (.slice s.a X.length s.cap)).heap.size=y.heap.size:=by simp[World.setCell]
  go_ret
  refine⟨b,s,X,rfl,hbel,by omega,hset,IE,fun x hx=>?_⟩
  have hxb:x.heap[b]?=some (.cells #[.slice s.a X.length s.cap] 26):=(hx b ⟨by omega,by omega⟩).trans hset
  have hxl:b<x.heap.size:=(Array.getElem?_eq_some_iff.1 hxb).1
  refine tZ.box (b:=b) (t:=26) (hd (x.putObj b (.cells #[.slice none 0 0] 26)) fun k hk=>?_) (World.putObj_heap_same hxl) (fun k hk=>(World.putObj_heap_other hk).symm)
  by_cases e:k=b
  ·subst e;rw[World.putObj_heap_same hxl];exact hb8.symm
  ·rw[World.putObj_heap_other e,hx k ⟨by have:=hk.1;omega,by have:=hk.2;omega⟩];exact hoth k e
end Go.Proofs.YtaghcadlgbnbdaaGreatDoor
namespace Go.WW
open Go.RowKit
variable {F:Fence} {n:Nat} {P:Program}
section
variable {b:Frame} {a:Act} {k:List Item} {cs:List Frame} {w:World} {Q:Exit→Act→World→Prop}
theorem nY{c:Code}:step P (lone (b.atR a (.code (.scope c)::k)) cs w)=.next (lone (b.atR a (.code c::.inScope c::k)) cs w):=
 step_lone_go (by simp[stepG,stepG.exec,Frame.atR])
theorem IG{c:Code}:step P (lone (b.atR a (.inScope c::k)) cs w)=.next (lone (b.atR a k) cs w):=
 step_lone_go (by simp[stepG,stepG.exec,Frame.atR])
theorem WM{c:Code}(h:c.wpIn F n P (Exit.noGoto Q) a w):(Code.scope c).wpIn F n P Q a w:=by
 intro b k cs hro hb hr
 have h0:(lone (b.atR a (.code (.scope c)::k)) cs w).fenced P F:=fenced_calm hb hr rfl
 obtain⟨e,a₁,w₁,hq,harr⟩:=h b (.inScope c::k) cs hro hb hr
 cases e with
 |normal=>exact⟨.normal,a₁,w₁,hq,.head h0 nY (StepsIn.trans harr (.one (fenced_calm hb hr rfl) IG))⟩
 |exit id=>
  have hx:exitTo id (.inScope c::k)=exitTo id k:=by simp[exitTo]
  exact⟨.exit id,a₁,w₁,hq,fun k' hk=>.head h0 nY (harr.1 k' (by rw[hx];exact hk)),fun hr' hk=>let⟨k₁,h1,h2⟩:=harr.2 hr' (by rw[hx];exact hk);⟨k₁,h1,.head h0 nY h2⟩⟩
 |goto l=>exact hq.elim
 |ret=>exact⟨_,a₁,w₁,hq,.of_steps (.one h0 nY) harr⟩
 |panic ch=>exact⟨_,a₁,w₁,hq,.of_steps (.one h0 nY) harr⟩
 |outgrown=>exact⟨_,a₁,w₁,hq,.of_steps (.one h0 nY) harr⟩
end
end Go.WW
namespace Go.WW.TI
open Go.RowKit
def nZ(T:TypeId)(o:Oper):Bool:=eU o&&(match o.op with | .load t _=>t != T|_=>true)
theorem ahu{T:TypeId}{o:Oper}(h:nZ T o=true):eU o=true:=by
 unfold nZ at h
 simp only[Bool.and_eq_true]at h
 exact h.1
section
variable {F:Fence} {P:Program} {ops:Array Oper} {S:World→Prop} {T:TypeId} {Q:Act→World→Prop}
theorem Bi{o:Oper}{rest:List Oper}{a:Act}{w:World}(hw:Region.wanted o (yielded ops a.tmps)=true)(hs:nZ T o=true)
  (h:∀K:Act→Prop,(∀a',aF F P ops (nZ T) S Q rest a' w→K a')→o.quiet P a S K):aF F P ops (nZ T) S Q (o::rest) a w:=by
 rw[bu,if_pos hw,if_pos hs]
 obtain⟨v,hv,hh⟩:=h _ (fun _ x=>x)
 refine⟨v,fun w' hw'=>?_,hh⟩
 have:=hv w' hw'
 unfold Oper.quietAt at this
 rcases MJ (P:=P) (ahu hs) a.eval w' with⟨u,w'',e⟩|⟨x,w'',e⟩
 ·rw[e]at this ⊢
  obtain⟨rfl,rfl⟩:=this
  rfl
 ·rw[e]at this
  exact this.elim
theorem II{l:Nat}{o:Oper}{rest:List Oper}{a:Act}{w:World}(hw:Region.wanted o (yielded ops a.tmps)=true)(hs:nZ T o=false)(hnd:AP o=false)
  (h:∀K:Act→World→Prop,(∀a' w',S w'→aF (Fence.wide.inRound l) P ops (nZ T) S Q rest a' w'→K a' w')→o.wp P a w K never):aF (Fence.wide.inRound l) P ops (nZ T) S Q (o::rest) a w:=by
 rw[bu,if_pos hw,if_neg (by simp[hs])]
 exact Ug (fun c hc=>by simp[AP,hc]at hnd) (h _ (fun _ _ x y=>⟨x,y⟩))
theorem WN{l:Nat}{o:Oper}{rest:List Oper}{a:Act}{w:World}(hw:Region.wanted o (yielded ops a.tmps)=true)(hs:nZ T o=false)
  (h:∀K:Act→World→Prop,(∀a' w',S w'→aF (Fence.wide.inRound l) P ops (nZ T) S Q rest a' w'→K a' w')→o.wpIn (Fence.wide.inRound l) 0 P a w K never):aF (Fence.wide.inRound l) P ops (nZ T) S Q (o::rest) a w:=by
 rw[bu,if_pos hw,if_neg (by simp[hs])]
 exact h _ (fun _ _ x y=>⟨x,y⟩)
end
theorem WO{P:Program}{id l:Nat}{Q':Exit→Act→World→Prop}{a:Act}{W w:World}{ops:List Oper}(T:TypeId)(S:Nat→Prop)(hW:But S W w)(hm:P.follows .mixedOrders=true)(hB:lJ (nZ T) ops.toArray=true)(hnd:Hr ops=true)
  (h:aF (Fence.wide.inRound l) P ops.toArray (nZ T) (mX S W) (fun a' w'=>Q' .normal a' w') ops a w.drew):(Code.region id ops.toArray true).wpIn (Fence.wide.inRound l) 0 P Q' a w:=
 Uf (fun _=>trivial) rfl (mX S W) (nZ T) hm hB hnd ⟨⟨w.drew,hW.drew⟩,rfl⟩ h
end Go.WW.TI
namespace Go.WW
open Go.RowKit
def VN(_:Nat)(x:PP)(v:Array Value)(W0 W1:World):Prop:=∃s,v=#[.agg (ak s x.2)]∧aZ W1 (fresh W0.heap.size W1) (fun y=>bg y s x.2)
end Go.WW
namespace Go.Proofs.YtaghcadlgbnbdaaGreatDoor
open Go.RowKit Go.WW
attribute [local go_sem] Oper.semAt_some
theorem NT(b:Nat)(s:Sl)(X:List PP)(S:Nat→Prop)(w:World)(hc:w.heap[b]?=some (.cells #[.slice s.a X.length s.cap] 26))(hS:∀k,S k→k<w.heap.size)(hL:∀y,But (Off S w) w y→tZ y s.a X) :
  AQ Tryz.prog 109 #[.pointer (some ⟨b,0,none⟩)] S X VN w:=by
 intro l J Jx W hW hl1 hl2 h0 hJ hJx hY
 have hWc:W.cell? ⟨b,0,none⟩=some (.slice s.a X.length s.cap):=(ai (aA hW hc)).1 0
 have hbl:b<W.heap.size:=World.block_lt_of_cell? W _ hWc
 have HJ:=Lib.hid hJ
 have xn:=Lib.hid hJx
 have HY:=Lib.hid hY
 have HL:=Lib.hid hL
 have H0:=Lib.hid h0
 clear hJ hJx hY hL h0
 obtain⟨W1,hW1⟩:∃W1,W1=W.alloc (.cells #[.func (.yield l) #[] #[]] 58):=⟨_,rfl⟩
 obtain⟨W2,hW2⟩:∃W2,W2=W1.alloc (.cells #[.slice s.a X.length s.cap] 26):=⟨_,rfl⟩
 have hs1:W1.heap.size=W.heap.size+1:=by rw[hW1];simp
 have hb1:Below W.heap.size W W1:=by rw[hW1];exact(Below.refl _ _).alloc (Nat.le_refl _) _
 have hb2:Below W.heap.size W W2:=by rw[hW2];exact hb1.alloc hb1.size _
 have hs2:W2.heap.size=W.heap.size+2:=by rw[hW2];simp[hs1]
 have hy1:W2.heap[W.heap.size]?=some (.cells #[.func (.yield l) #[] #[]] 58):=by
  rw[hW2,Below.heap_alloc _ _ _ (by omega),hW1];exact World.alloc_heap_new _ _
 have hy2:W2.cell? ⟨W.heap.size+1,0,none⟩=some (.slice s.a X.length s.cap):=by
  have:=World.alloc_heap_new W1 (.cells #[.slice s.a X.length s.cap] 26)
  rw[←hW2,hs1]at this
  exact(ai this).1 0
 refine(callsIn_wide (n:=0)).1 ?_
 refine callsIn_of_wp_marks Tryz.func109 rfl trivial ?_ rfl
 simp only[Tryz.ntmps109,List.size_toArray,List.length_cons,List.length_nil,Nat.reduceAdd,Nat.reduceSub,Array.replicate_succ,Array.replicate_zero,List.push_toArray,List.append_toArray,List.nil_append,List.cons_append]
 gi_wp2
 refine WM ?_
 gi_wp2
 refine wpIn_label ?_
 gi_wp2
 refine⟨trivial,rfl,(callsIn_wide.2 (adD _ _ _ _)).mono ?_⟩
 rintro e w' ⟨rfl,rfl⟩
 rw[←hW1,hs1,←hW2]
 clear hW1 hW2
 gi_wp2
 have hwW:=hW.size
 refine(wpIn_wide (n:=0)).2 ?_
 refine vg (gf:=180) (lb:=#[.pointer (some ⟨W.heap.size+1,0,none⟩)]) (by simp[go_sem]) (enters_of Tryz.func180 (by kernel_rfl) rfl) (S:=fun k=>S k∨k=l) ?_ (xs:=X) (V:=Uj (fun k=>S k∨k=l) W2) ?_ (adE _ s.cap s.a X _ W2 hy2 ?_)
  (fun c1 k Wc=>J c1 k Wc∧Wc.heap[W.heap.size]?=some (.cells #[.func (.yield l) #[] #[]] 58)∧But (Off (fun k=>S k∨k=l) W2) W2 Wc∧W2.heap.size<c1) (fun c c1 k Wc=>c=.exit 0∧Jx c1 k Wc∧W2.heap.size<c1) ?_ ?_ ?_ ?_ ?_ ?_
 ·rintro k (hk|rfl)
  ·have:=hS k hk;omega
  ·omega
 ·rintro c1 x v W0 Wc ⟨rfl,_⟩;rfl
 ·intro y hy
  refine HL.out y ((But.of_below (ag hW hb2)).trans (hy.mono fun k hk=>?_))
  rcases hk with(hk|rfl)|hk
  ·exact .inl hk
  ·exact .inr hl1
  ·exact .inr (by omega)
 ·intro c1 Wc h1 h2 hb
  exact⟨H0.out c1 Wc (by omega) h2 (ag hb2 hb),aA hb hy1,But.of_below hb,h1⟩
 ·rintro c1 k Wc lh ⟨h1,h2,h3,h4⟩ hb
  exact⟨HJ.out _ _ _ _ h1 (hb.mono fun k hk=>⟨by have:=hk.1;omega,hk.2⟩),(hb.block _ (Array.getElem?_eq_some_iff.1 h2).1 (fun h=>by have:=h.1;omega)).trans h2,h3.trans (hb.mono fun k hk=>.inr (by have:=hk.1;omega)),h4⟩
 ·rintro c c1 k Wc lh ⟨rfl,h1,h2⟩ hb
  exact⟨rfl,xn.out _ _ _ _ h1 (hb.mono fun k hk=>⟨by have:=hk.1;omega,hk.2⟩),h2⟩
 ·rintro c1 k x v W0 Wc hx ⟨rfl,hp⟩ ⟨hj,yX,iD,hc0⟩ hbs hc1 mZ
  have hsW:=hbs.size
  have hc2:c1≤Wc.heap.size:=Nat.le_trans mZ hsW
  have yY:=(hbs.block _ (Array.getElem?_eq_some_iff.1 yX).1 (fun h=>by have:=h.1;omega)).trans yX
  have hbu:=iD.trans (hbs.mono fun k hk=>(.inr (by have:=hk.1;omega):Off (fun k=>S k∨k=l) W2 k))
  have NU:But (span W.heap.size c1) W0 Wc:=hbs.mono fun k hk=>⟨by have:=hk.1;omega,hk.2⟩
  obtain⟨s0,p⟩:=x
  have HP:=Lib.hid hp
  have NV:=Lib.hid hj
  clear hp hj
  simp only[yJ]
  gi_wp2
  have hcl:W.heap.size<Wc.heap.size:=(Array.getElem?_eq_some_iff.1 yY).1
  have hal:Below Wc.heap.size Wc (Wc.alloc (.cells (ak s0 p) 25)):=(Below.refl _ _).alloc (Nat.le_refl _) _
  refine⟨hal,fun U hU=>?_⟩
  have lU:U.heap[Wc.heap.size]?=some (.cells (ak s0 p) 25):=(hU.block _ (by simp) (aT (by omega))).trans (World.alloc_heap_new _ _)
  have yZ:U.heap[W.heap.size]?=some (.cells #[.func (.yield l) #[] #[]] 58):=(hU.block _ (by simp;omega) (aT (by omega))).trans (aA hal yY)
  have dU:But (Off (fun k=>S k∨k=l) W2) W2 U:=(hbu.trans (But.of_below hal)).trans (hU.mono fun k hk=>.inr (by have:k=_:=hk;omega))
  have qh:=HP.out U dU
  have NW:But (span W.heap.size c1) W0 U:=NU.trans ((But.of_below hal).trans (hU.mono fun k hk=>(⟨by have:k=_:=hk;omega,by have:k=_:=hk;omega⟩:span W.heap.size c1 k)))
  have qi:Wc.heap.size<U.heap.size:=(Array.getElem?_eq_some_iff.1 lU).1
  have NY:¬((S W.heap.size∨W.heap.size=l)∨c1≤W.heap.size):=by
   rintro((h|h)|h)
   ·have:=hS _ h;omega
   ·omega
   ·omega
  have hcy:U.cell? ⟨W.heap.size,0,none⟩=some (.func (.yield l) #[] #[]):=(ai yZ).1 0
  have NZ:W.heap.size<U.heap.size:=by omega
  have jB:row? U Wc.heap.size 0 2=some (ak s0 p):=by rw[bV lU];exact dH (by simp[go_sem])
  clear hal hU hbu HP yY yX iD hbs
  gi_wp2
  refine TI.WO 25 (fun k=>(S k∨k=l)∨c1≤k) (But.refl _ U) (by kernel_rfl) (by kernel_rfl) (by kernel_rfl) ?_
  repeat (first|(refine TI.aP (by rfl) ?_)|(refine TI.Bi (by rfl) (by rfl) (fun K hK=>?_);go_big_quiet_op;refine hK _ ?_;clear hK K))
  refine TI.II (by rfl) (by rfl) (by rfl) (fun K hK=>?_)
  go_wp2_with fail
  refine hK _ _ (bI (But.refl _ U).drew) ?_
  clear hK K
  refine TI.II (by rfl) (by rfl) (by rfl) (fun K hK=>?_)
  go_wp2_with fail
  refine(Vq _ _ U.drew (qh.later (Below.refl _ _).drew)).mono ?_
  rintro e U2 ⟨s2,rfl,hb2',hd2⟩
  dsimp only
  have hbb:Below U.heap.size U U2:=(Below.refl _ U).drew.trans hb2'
  refine hK _ _ (bI (But.of_below hbb)) ?_
  clear hK K
  have hbs:=hbb.size
  obtain⟨fn,tmps,assign,body,hy,hR⟩:=HY.out c1 k (s0,p) #[.agg (ak s2 p)] W0 U2 hx NV.out (NW.trans (But.of_below hbb)) ⟨s2,rfl,hd2.to (fun _ _=>rfl) (fun j hj=>⟨by have h1:U.drew.heap.size≤j:=hj.1;have h2:U.drew.heap.size=U.heap.size:=rfl;omega,hj.2⟩)⟩ (by omega) mZ
  refine TI.WN (by rfl) (by rfl) (fun K hK=>?_)
  gi_wp2
  refine⟨rfl,RoundIn.mono (F:=Fence.wide.inRound (W.heap.size+2+1)) hR ?_⟩
  rintro e W3 ⟨hb3,h3⟩
  have fF:But (fun k=>(S k∨k=l)∨c1≤k) U W3:=(But.of_below hbb).trans hb3
  have hy3:W3.heap[W.heap.size]?=some (.cells #[.func (.yield l) #[] #[]] 58):=(fF.block _ NZ NY).trans yZ
  have uq:But (Off (fun k=>S k∨k=l) W2) W2 W3:=dU.trans (fF.mono fun k hk=>hk.imp id (fun h=>by omega))
  clear hy hR hd2 hcy jB lU yZ dU qh
  rcases h3 with⟨rfl,hj3⟩|⟨rfl,hx3⟩
  ·dsimp only
   refine hK _ _ (bI fF) ?_
   clear hK K
   repeat (first|(refine TI.aP (by rfl) ?_)|(refine TI.Bi (by rfl) (by rfl) (fun K hK=>?_);go_big_quiet_op;refine hK _ ?_;clear hK K))
   refine TI.bW ?_
   gi_wp2
   exact⟨fF,hj3,hy3,uq,by omega⟩
  ·dsimp only
   refine hK _ _ (bI fF) ?_
   clear hK K
   repeat (first|(refine TI.aP (by rfl) ?_)|(refine TI.Bi (by rfl) (by rfl) (fun K hK=>?_);go_big_quiet_op;refine hK _ ?_;clear hK K))
   refine TI.bW ?_
   gi_wp2
   exact⟨fF,rfl,hx3,by omega⟩
 ·intro c1 Wc ⟨hj,_,_,hc0⟩ hD
  gi_wp2
  refine⟨by simp,.inl ⟨_,_,rfl,run_takeDeferred hD,?_⟩⟩
  refine⟨.tuple #[],by simp[results,Tryz.f109,go_sem],⟨_,rfl⟩,.inl ⟨c1,HJ.out _ _ _ _ hj ((But.putObj _).mono fun k hk=>?_)⟩⟩
  have:k=_:=hk
  exact⟨by omega,by omega⟩
 ·rintro c c1 k Wc ⟨rfl,hx,hc0⟩ hD
  refine(wpIn_wide (n:=0)).1 ?_
  gi_wp2
  refine⟨by simp,.inl ⟨_,_,rfl,run_takeDeferred hD,?_⟩⟩
  refine⟨.tuple #[],by simp[results,Tryz.f109,go_sem],⟨_,rfl⟩,.inr ⟨c1,k,xn.out _ _ _ _ hx ((But.putObj _).mono fun k hk=>?_)⟩⟩
  have:k=_:=hk
  exact⟨by omega,by omega⟩
end Go.Proofs.YtaghcadlgbnbdaaGreatDoor
namespace Go.WW
open Go.RowKit
structure Db where
 aG:ByteArray
 ay:Int
 entries:List Entry
 ax:List ah
def aj(e p:Sl)(D:Db):Array Value:=#[.string D.aG,.int .i64 D.ay,.slice e.a D.entries.length e.cap,.slice p.a D.ax.length p.cap]
theorem iT(e p:Sl)(D:Db):(aj e p D).size=4:=by simp[aj]
theorem ahw(e p:Sl)(D:Db):dD (aj e p D)=true:=by simp[dD,aj,Value.oneCell']
theorem ahx(e p:Sl)(D:Db)(h:0<(aj e p D).size):(aj e p D)[0]'h=.string D.aG:=by simp[aj]
theorem ahy(e p:Sl)(D:Db)(h:1<(aj e p D).size):(aj e p D)[1]'h=.int .i64 D.ay:=by simp[aj]
theorem Eu(e p:Sl)(D:Db):(aj e p D)[2]?=some (.slice e.a D.entries.length e.cap):=by simp[aj]
theorem ahz(e p:Sl)(D:Db)(h:2<(aj e p D).size):(aj e p D)[2]'h=.slice e.a D.entries.length e.cap:=by simp[aj]
theorem IJ(e p:Sl)(D:Db):(aj e p D)[3]?=some (.slice p.a D.ax.length p.cap):=by simp[aj]
theorem ahA(e p:Sl)(D:Db)(h:3<(aj e p D).size):(aj e p D)[3]'h=.slice p.a D.ax.length p.cap:=by simp[aj]
theorem WQ(e p:Sl)(D:Db)(v:Int):(aj e p D).setIfInBounds 1 (.int .i64 v)=aj e p {D with ay:=v}:=by kernel_rfl
theorem WR(e p:Sl)(D:Db)(s:Sl)(l:List Entry):(aj e p D).setIfInBounds 2 (.slice s.a l.length s.cap)=aj s p {D with entries:=l}:=by kernel_rfl
attribute [go_sem] iT ahw ahx ahy Eu ahz IJ ahA WQ
def iZ(w:World)(a:Option Addr)(l:List Entry):Prop:=aO w 17 a l.length fun i cs=>∃d r,l[i]?=some d∧cs=ae r d∧bz w r d
def fG(w:World)(a:Option Addr)(l:List ah):Prop:=aO w 10 a l.length fun i cs=>∃p,l[i]?=some p∧cs=az p∧p.name.size≤lim
theorem iZ.later{w w':World}(h:Below w.heap.size w w'){a:Option Addr}{l:List Entry}(x:iZ w a l):iZ w' a l:=aO.later h (fun _ _ ⟨d,r,y1,y2,y3⟩=>⟨d,r,y1,y2,y3.later h⟩) x
theorem fG.later{w w':World}(h:Below w.heap.size w w'){a:Option Addr}{l:List ah}(x:fG w a l):fG w' a l:=aO.later h (fun _ _ y=>y) x
theorem iZ.get{w:World}{a:Option Addr}{l:List Entry}(x:iZ w a l)(i:Nat)(h:i<l.length):∃b o r,a=some ⟨b,o,none⟩∧row? w b (o+i*17) 17=some (ae r l[i])∧bz w r l[i]:=by
 obtain⟨b,o,v,h1,h2,d,r,h3,rfl,h4⟩:=x.2 i h
 rw[List.getElem?_eq_getElem h]at h3;cases h3
 exact⟨b,o,r,h1,h2,h4⟩
theorem fG.get{w:World}{a:Option Addr}{l:List ah}(x:fG w a l)(i:Nat)(h:i<l.length):∃b o,a=some ⟨b,o,none⟩∧row? w b (o+i*10) 10=some (az l[i])∧l[i].name.size≤lim:=by
 obtain⟨b,o,v,h1,h2,d,h3,rfl,h4⟩:=x.2 i h
 rw[List.getElem?_eq_getElem h]at h3;cases h3
 exact⟨b,o,h1,h2,h4⟩
theorem iZ.at{w:World}{b o:Nat}{l:List Entry}(x:iZ w (some ⟨b,o,none⟩) l)(i:Nat)(h:i<l.length):∃r,row? w b (o+i*17) 17=some (ae r l[i])∧bz w r l[i]:=by
 obtain⟨b',o',r,ha,hc⟩:=x.get i h;cases ha;exact⟨r,hc⟩
theorem fG.at{w:World}{b o:Nat}{l:List ah}(x:fG w (some ⟨b,o,none⟩) l)(i:Nat)(h:i<l.length):row? w b (o+i*10) 10=some (az l[i])∧l[i].name.size≤lim:=by
 obtain⟨b',o',ha,hc⟩:=x.get i h;cases ha;exact hc
end Go.WW
namespace Go.Proofs.YtaghcadlgbnbdaaGreatDoor
open Go.RowKit Go.WW
theorem ahB(w:World)(b o:Nat):(jq 44 (.pointer (some ⟨b,o,none⟩))).run Tryz.prog w=qM Tryz.prog 44 w b o (row? w b o 4):=uZ Tryz.underlying44 rfl (by kernel_rfl) w b o
theorem ahC(ρ:Operand→Value)(dst:Option Tmp)(x:Operand)(ty:TypeId)(pos:String)(after:Array Edge)(guard:Option (Nat×Bool)):execOp ρ {dst,op:=.load 44 x,type:=ty,pos,after,guard}=jq 44 (ρ x):=rfl
attribute [go_sem] ahB
attribute [go_sem ↓] ahC
theorem ahD(w:World)(b o:Nat)(cs:Array Value)(hn:cs.size=4)(h1:dD cs=true):(jQ 44 (.pointer (some ⟨b,o,none⟩)) (.agg cs)).run Tryz.prog w=tH Tryz.prog 44 w b o cs (aJ w b o 4):=wX (by kernel_rfl) w b o cs hn h1
theorem ahE(ρ:Operand→Value)(dst:Option Tmp)(x y:Operand)(ty:TypeId)(pos:String)(after:Array Edge)(guard:Option (Nat×Bool)):execOp ρ {dst,op:=.store 44 x y,type:=ty,pos,after,guard}=jQ 44 (ρ x) (ρ y):=rfl
attribute [go_sem] ahD
attribute [go_sem ↓] ahE
end Go.Proofs.YtaghcadlgbnbdaaGreatDoor
namespace Go.WW
def o8(p q:aB)(i:Nat)(c:Int):Prop:=dV p q=if c=0 then nR (p.parts.drop i) (q.parts.drop i)else c
theorem ahF(p q:aB):o8 p q 0 (bQ p.aG q.aG):=rfl
theorem ahG{p q:aB}{i:Nat}(h:o8 p q i 0)(hp:i<p.parts.length)(hq:i<q.parts.length):o8 p q (i+1) (bQ p.parts[i] q.parts[i]):=by
 unfold o8 at h ⊢
 rw[if_pos rfl,List.drop_eq_getElem_cons hp,List.drop_eq_getElem_cons hq]at h
 exact h
theorem ahH{p q:aB}{i:Nat}{c:Int}(h:o8 p q i c)(hc:c≠0):dV p q=c:=by
 unfold o8 at h;rwa[if_neg hc]at h
theorem ahI{p q:aB}{i:Nat}(h:o8 p q i 0)(hp:p.parts.length≤i)(hq:i<q.parts.length):dV p q=-1:=by
 unfold o8 at h
 rw[if_pos rfl,List.drop_of_length_le hp,List.drop_eq_getElem_cons hq]at h
 exact h
theorem ahJ{p q:aB}{i:Nat}(h:o8 p q i 0)(hp:i<p.parts.length)(hq:q.parts.length≤i):dV p q=1:=by
 unfold o8 at h
 rw[if_pos rfl,List.drop_of_length_le hq,List.drop_eq_getElem_cons hp]at h
 exact h
theorem ahK{p q:aB}{i:Nat}(h:o8 p q i 0)(hp:p.parts.length≤i)(hq:q.parts.length≤i):dV p q=0:=by
 unfold o8 at h
 rw[if_pos rfl,List.drop_of_length_le hp,List.drop_of_length_le hq]at h
 exact h
theorem N7{a b:ByteArray}(h:Op.bytesLess a.toList b.toList=true):bQ a b=-1:=by rw[bQ,if_pos h]
theorem N8{a b:ByteArray}(h:Op.bytesLess a.toList b.toList=false)(he:¬a=b):bQ a b=1:=by
 have h2:Op.bytesLess b.toList a.toList=true:=by
  cases h2:Op.bytesLess b.toList a.toList
  ·exact absurd (toList_inj (Mc _ _ h h2)) he
  ·rfl
 rw[bQ,h,h2];rfl
theorem N9(a:ByteArray):bQ a a=0:=(oO.zero a a).2 rfl
def lV(d:Entry)(p:aB):Bool:=d.aliases.any (fun a=>bn a p) || bn d.name p
def idxOf{α:Type}(f:α→Bool)(l:List α):Int:=match l.findIdx? f with|some i=>(i:Int)|none=>-1
theorem WS{α:Type}{f:α→Bool}{l:List α}(k:Nat)(hk:k<l.length)(h:(l.take k).all (fun x=>!f x)=true)(hf:f l[k]=true):idxOf f l=(k:Int):=by
 have:l.findIdx? f=some k:=by
  rw[List.findIdx?_eq_some_iff_getElem]
  refine⟨hk,hf,fun j hj=>?_⟩
  have:=List.all_eq_true.1 h (l[j]'(by omega)) (by rw[List.mem_iff_getElem];exact⟨j,by simp;omega,by simp⟩)
  simpa using this
 rw[idxOf,this]
theorem WT{α:Type}{f:α→Bool}{l:List α}(k:Nat)(hk:l.length≤k)(h:(l.take k).all (fun x=>!f x)=true):idxOf f l=-1:=by
 have:l.findIdx? f=none:=by
  rw[List.findIdx?_eq_none_iff]
  intro x hx
  rw[List.take_of_length_le hk]at h
  simpa using List.all_eq_true.1 h x hx
 rw[idxOf,this]
theorem ahL{α:Type}{f:α→Bool}{l:List α}(k:Nat)(hk:k<l.length)(hf:f l[k]=true):l.any f=true:=List.any_eq_true.2 ⟨l[k],List.getElem_mem hk,hf⟩
theorem ahM{α:Type}{f:α→Bool}{l:List α}(k:Nat)(hk:l.length≤k)(h:(l.take k).all (fun x=>!f x)=true):l.any f=false:=by
 rw[List.take_of_length_le hk]at h
 rw[List.any_eq_false]
 intro x hx
 have:=List.all_eq_true.1 h x hx
 simpa using this
end Go.WW
namespace Go.Proofs.YtaghcadlgbnbdaaGreatDoor
open Go.RowKit Go.WW
theorem WU(a b:ByteArray)(w:World):Calls Tryz.prog 191 #[.string a,.string b] w fun e w'=>e=.returned (.int .i64 (bQ a b))∧w=w':=by
 cases h:Op.bytesLess a.toList b.toList
 ·by_cases he:a=b
  ·have he':=str_eq _ _ he
   have HN:=Lib.hid (show bQ a b=0 by subst he;exact N9 a)
   clear he
   go_enter Tryz.func191,Tryz.ntmps191
   go_wp2
   go_ret
   exact⟨by rw[HN.out];rfl,rfl⟩
  ·have he':=kD _ _ he
   have HN:=Lib.hid (N8 h he)
   clear he
   go_enter Tryz.func191,Tryz.ntmps191
   go_wp2
   go_ret
   exact⟨by rw[HN.out];rfl,rfl⟩
 ·have HN:=Lib.hid (N7 h)
  go_enter Tryz.func191,Tryz.ntmps191
  go_wp2
  go_ret
  exact⟨by rw[HN.out];rfl,rfl⟩
theorem WV(s t:Sl)(p q:aB)(w:World)(hp:bg w s p)(hq:bg w t q):Calls Tryz.prog 129 #[.agg (ak s p),.agg (ak t q)] w fun e w'=>e=.returned (.int .i64 (dV p q))∧Below w.heap.size w w':=by
 have hl:p.parts.length≤4294967000:=hp.1.1
 have hl2:q.parts.length≤4294967000:=hq.1.1
 have hB:Below w.heap.size w ((w.alloc (.cells (ak s p) 25)).alloc (.cells (ak t q) 25)):=((Below.refl _ _).alloc (Nat.le_refl _) _).alloc (by simp) _
 go_enter Tryz.func129,Tryz.ntmps129
 go_wp2_with (go_at_call 191;refine(WU _ _ _).mono ?_;rintro e w' ⟨rfl,rfl⟩)
 go_loopw [5,6] (fun c i wr=>Below ((w.alloc (.cells (ak s p) 25)).alloc (.cells (ak t q) 25)).heap.size ((w.alloc (.cells (ak s p) 25)).alloc (.cells (ak t q) 25)) wr∧∃(k:Nat) (z:Int),k≤p.parts.length∧k≤q.parts.length∧i=.int .i64 k∧c=.int .i64 z∧Hid (o8 p q k z)) (fun _ i _=>p.parts.length-(intOf i).toNat)
 case atStart=>exact⟨Below.refl _ _,0,_,Nat.zero_le _,Nat.zero_le _,rfl,rfl,ahF p q⟩
 case round=>
  obtain⟨hbr,k,z,hk,hk2,rfl,rfl,hall⟩:=hrel
  obtain⟨hcc,aU,hrr⟩:=bf hbr
  by_cases hz:z=0
  ·subst hz
   by_cases hlt:k<p.parts.length
   ·have hki:(k:Int)<(p.parts.length:Int):=by omega
    by_cases hlq:k<q.parts.length
    ·have hkq:(k:Int)<(q.parts.length:Int):=by omega
     obtain⟨b,o,ha,hc,hsz⟩:=hp.1.get k hlt
     obtain⟨b',o',ha',hc',hsz'⟩:=hq.1.get k hlq
     have hb:b<w.heap.size:=World.block_lt_of_cell? w _ hc
     have hb':b'<w.heap.size:=World.block_lt_of_cell? w _ hc'
     have hb1:b<w.heap.size+1+1:=by omega
     have hb1':b'<w.heap.size+1+1:=by omega
     have HT:=Lib.hid (ahG hall.out hlt hlq)
     go_wp2
     refine dP hbr (by kernel_rfl) (by kernel_rfl) ?_
     repeat (go_big_quiet_step ((go_at_call 191;exact Calls.DI (WU _ _ _))))
     refine wpQuiet_nil ?_
     intro w2 hb2
     go_wp2
     go_roundw
     case rel=>exact⟨hb2,k+1,_,by omega,by omega,by go_num,rfl,HT.out⟩
     case measure=>simp[intOf];omega
    ·have HN:=Lib.hid (ahJ hall.out hlt (by omega))
     have h1:¬(p.parts.length:Int)<(q.parts.length:Int):=by omega
     have h2:(q.parts.length:Int)<(p.parts.length:Int):=by omega
     go_wp2
     go_ret
     exact⟨by rw[HN.out];rfl,hB.trans (hbr.mono (by simp;omega))⟩
   ·by_cases hlq:k<q.parts.length
    ·have HN:=Lib.hid (ahI hall.out (by omega) hlq)
     have h1:(p.parts.length:Int)<(q.parts.length:Int):=by omega
     go_wp2
     go_ret
     exact⟨by rw[HN.out];rfl,hB.trans (hbr.mono (by simp;omega))⟩
    ·have HN:=Lib.hid (ahK hall.out (by omega) (by omega))
     have h1:¬(p.parts.length:Int)<(q.parts.length:Int):=by omega
     have h2:¬(q.parts.length:Int)<(p.parts.length:Int):=by omega
     go_wp2
     go_ret
     exact⟨by rw[HN.out];rfl,hB.trans (hbr.mono (by simp;omega))⟩
  ·have HN:=Lib.hid (ahH hall.out hz)
   have hz':(z == 0)=false:=by simp[hz]
   clear hz
   go_wp2
   go_ret
   exact⟨by rw[HN.out];rfl,hB.trans (hbr.mono (by simp;omega))⟩
theorem WX(r:aI)(d:Entry)(t:Sl)(q:aB)(w:World)(he:bz w r d)(hq:bg w t q):Calls Tryz.prog 78 #[.agg (ae r d),.agg (ak t q)] w fun e w'=>e=.returned (.bool (lV d q))∧Below w.heap.size w w':=by
 have hl:d.aliases.length≤4294967000:=he.aliases.1
 have hB:Below w.heap.size w ((w.alloc (.cells (ae r d) 32)).alloc (.cells (ak t q) 25)):=((Below.refl _ _).alloc (Nat.le_refl _) _).alloc (by simp) _
 go_enter Tryz.func78,Tryz.ntmps78
 go_wp2_with fail
 go_loopw [5] (fun i wr=>Below ((w.alloc (.cells (ae r d) 32)).alloc (.cells (ak t q) 25)).heap.size ((w.alloc (.cells (ae r d) 32)).alloc (.cells (ak t q) 25)) wr∧∃k:Nat,k≤d.aliases.length∧i=.int .i64 k∧Hid ((d.aliases.take k).all (fun a=>!bn a q)=true)) (fun i _=>d.aliases.length-(intOf i).toNat)
 case atStart=>exact⟨Below.refl _ _,0,Nat.zero_le _,rfl,by simp[Hid]⟩
 case round=>
  obtain⟨hbr,k,hk,rfl,hall⟩:=hrel
  obtain⟨hcc,aU,hrr⟩:=bf hbr
  by_cases hlt:k<d.aliases.length
  ·have hki:(k:Int)<(d.aliases.length:Int):=by omega
   obtain⟨b,o,t1,ha,hc,hp⟩:=he.aliases.get k hlt
   have hb:b<w.heap.size:=gq hc
   have hb1:b<w.heap.size+1+1:=by omega
   cases hs:bn d.aliases[k] q
   ·have HS:=Lib.hid (kC (p:=fun a=>!bn a q) d.aliases k hlt hall.out (by simp[hs]))
    go_wp2_with fail
    refine dP hbr (by kernel_rfl) (by kernel_rfl) ?_
    repeat (go_big_quiet_step ((go_at_call 21;rename_i xw;exact Calls.gX (hs▸qX _ _ _ _ _ ((hp.later hB).later xw.b) ((hq.later hB).later xw.b)))))
    refine wpQuiet_nil ?_
    intro w2 hb2
    go_wp2_with fail
    go_roundw
    case rel=>exact⟨hb2,k+1,by omega,by go_num,HS.out⟩
    case measure=>simp[intOf];omega
   ·have HS:=Lib.hid (show lV d q=true by rw[lV,ahL k hlt hs];rfl)
    go_wp2_with fail
    refine dP hbr (by kernel_rfl) (by kernel_rfl) ?_
    repeat (go_big_quiet_step ((go_at_call 21;rename_i xw;exact Calls.gX (hs▸qX _ _ _ _ _ ((hp.later hB).later xw.b) ((hq.later hB).later xw.b)))))
    refine wpQuiet_nil ?_
    intro w2 hb2
    go_wp2_with fail
    go_ret
    exact⟨by rw[HS.out];rfl,hB.trans (hb2.mono (by simp;omega))⟩
  ·have HN:=Lib.hid (show lV d q=bn d.name q by rw[lV,ahM k (by omega) hall.out];rfl)
   go_wp2_with fail
   refine(qX _ _ _ _ _ ((he.name.later hB).later hbr) ((hq.later hB).later hbr)).mono ?_
   rintro e w2 ⟨rfl,hb2⟩
   dsimp only
   go_wp2_with fail
   go_ret
   exact⟨by rw[HN.out];rfl,hB.trans ((ag hbr hb2).mono (by simp;omega))⟩
end Go.Proofs.YtaghcadlgbnbdaaGreatDoor
namespace Go.WW
open Go.RowKit
theorem Oa{w:World}{b o n:Nat}{cs:Array Value}(h:row? w b o n=some cs){j m:Nat}(hj:j+m≤n):row? w b (o+j) m=eQ cs j m:=by
 have hs:=yE h
 unfold row? at h ⊢
 cases hb:w.heap[b]? with
 |none=>rw[hb]at h;simp at h
 |some ob=>
  rw[hb]at h
  cases ob with
  |cells c t f=>
   dsimp only at h ⊢
   by_cases hn:o+n≤c.size
   ·rw[if_pos hn]at h
    injection h with h
    rw[if_pos (by omega)]
    unfold eQ
    rw[if_pos (by omega),←h,Array.extract_extract]
    congr 2
    omega
   ·rw[if_neg hn]at h;cases h
  |_=>simp at h
theorem vJ{w:World}{b o:Nat}{r:aI}{d:Entry}(h:row? w b o 17=some (ae r d)):row? w b o 2=some (ak r.parts d.name):=by
 have:=Oa h (j:=0) (m:=2) (by omega)
 rw[Nat.add_zero]at this
 rw[this];exact LH r d
end Go.WW
namespace Go.Proofs.YtaghcadlgbnbdaaGreatDoor
open Go.RowKit Go.WW
theorem Ew(e p:Sl)(D:Db)(t:Sl)(q:aB)(w:World)(he:iZ w e.a D.entries)(hq:bg w t q):Calls Tryz.prog 77 #[.agg (aj e p D),.agg (ak t q)] w fun x w'=>x=.returned (.int .i64 (idxOf (fun d=>bn d.name q) D.entries))∧Below w.heap.size w w':=by
 have hl:D.entries.length≤4294967000:=he.1
 have hB:Below w.heap.size w ((w.alloc (.cells (aj e p D) 44)).alloc (.cells (ak t q) 25)):=((Below.refl _ _).alloc (Nat.le_refl _) _).alloc (by simp) _
 go_enter Tryz.func77,Tryz.ntmps77
 go_wp2_with fail
 go_loopw [5] (fun i wr=>Below ((w.alloc (.cells (aj e p D) 44)).alloc (.cells (ak t q) 25)).heap.size ((w.alloc (.cells (aj e p D) 44)).alloc (.cells (ak t q) 25)) wr∧∃k:Nat,k≤D.entries.length∧i=.int .i64 k∧Hid ((D.entries.take k).all (fun d=>!bn d.name q)=true)) (fun i _=>D.entries.length-(intOf i).toNat)
 case atStart=>exact⟨Below.refl _ _,0,Nat.zero_le _,rfl,by simp[Hid]⟩
 case round=>
  obtain⟨hbr,k,hk,rfl,hall⟩:=hrel
  obtain⟨hcc,aU,hrr⟩:=bf hbr
  by_cases hlt:k<D.entries.length
  ·have hki:(k:Int)<(D.entries.length:Int):=by omega
   obtain⟨b,o,r,ha,hc,hp⟩:=he.get k hlt
   have hb:b<w.heap.size:=gq hc
   have hb1:b<w.heap.size+1+1:=by omega
   have hc2:=vJ hc
   clear hc
   cases hs:bn D.entries[k].name q
   ·have HS:=Lib.hid (kC (p:=fun d=>!bn d.name q) D.entries k hlt hall.out (by simp[hs]))
    go_wp2_with fail
    refine dP hbr (by kernel_rfl) (by kernel_rfl) ?_
    repeat (go_big_quiet_step ((go_at_call 21;rename_i xw;exact Calls.gX (hs▸qX _ _ _ _ _ ((hp.name.later hB).later xw.b) ((hq.later hB).later xw.b)))))
    refine wpQuiet_nil ?_
    intro w2 hb2
    go_wp2_with fail
    go_roundw
    case rel=>exact⟨hb2,k+1,by omega,by go_num,HS.out⟩
    case measure=>simp[intOf];omega
   ·have HS:=Lib.hid (WS (f:=fun d=>bn d.name q) k hlt hall.out hs)
    go_wp2_with fail
    refine dP hbr (by kernel_rfl) (by kernel_rfl) ?_
    repeat (go_big_quiet_step ((go_at_call 21;rename_i xw;exact Calls.gX (hs▸qX _ _ _ _ _ ((hp.name.later hB).later xw.b) ((hq.later hB).later xw.b)))))
    refine wpQuiet_nil ?_
    intro w2 hb2
    go_wp2_with fail
    go_ret
    exact⟨by rw[HS.out];rfl,hB.trans (hb2.mono (by simp;omega))⟩
  ·have HN:=Lib.hid (WT (l:=D.entries) (f:=fun d:Entry=>bn d.name q) k (by omega) hall.out)
   go_wp2_with fail
   go_ret
   exact⟨by rw[HN.out];rfl,hB.trans (hbr.mono (by simp;omega))⟩
theorem Bj(e p:Sl)(D:Db)(s:ByteArray)(w:World)(hp:fG w p.a D.ax):Calls Tryz.prog 76 #[.agg (aj e p D),.string s] w fun x w'=>x=.returned (.int .i64 (idxOf (fun q=>decide (q.name=s)) D.ax))∧Below w.heap.size w w':=by
 have hl:D.ax.length≤4294967000:=hp.1
 have hB:Below w.heap.size w (w.alloc (.cells (aj e p D) 44)):=(Below.refl _ _).alloc (Nat.le_refl _) _
 go_enter Tryz.func76,Tryz.ntmps76
 go_wp2_with fail
 go_loop [5] (fun i=>∃k:Nat,k≤D.ax.length∧i=.int .i64 k∧Hid ((D.ax.take k).all (fun q=>!decide (q.name=s))=true)) (fun i=>D.ax.length-(intOf i).toNat)
 case atStart=>exact⟨0,Nat.zero_le _,rfl,by simp[Hid]⟩
 case round=>
  obtain⟨k,hk,rfl,hall⟩:=hrel
  by_cases hlt:k<D.ax.length
  ·have hki:(k:Int)<(D.ax.length:Int):=by omega
   obtain⟨b,o,ha,hc,hpl⟩:=hp.get k hlt
   have hb:b<w.heap.size:=gq hc
   have hc2:w.cell? ⟨b,o+k*10,none⟩=some (.string D.ax[k].name):=by have:=gp hc 0 (by omega);simpa[go_sem]using this
   clear hc
   by_cases hs:D.ax[k].name=s
   ·have hs':=str_eq _ _ hs
    have HS:=Lib.hid (WS (f:=fun q=>decide (q.name=s)) k hlt hall.out (by simp[hs]))
    clear hs
    go_wp2_with fail
    go_ret
    exact⟨by rw[HS.out];rfl,hB⟩
   ·have hs':=kD _ _ hs
    have HS:=Lib.hid (kC (p:=fun q=>!decide (q.name=s)) D.ax k hlt hall.out (by simp[hs]))
    clear hs
    go_wp2_with fail
    go_round
    case rel=>exact⟨k+1,by omega,by go_num,HS.out⟩
    case measure=>simp[intOf];omega
  ·have HN:=Lib.hid (WT (l:=D.ax) (f:=fun q:ah=>decide (q.name=s)) k (by omega) hall.out)
   go_wp2_with fail
   go_ret
   exact⟨by rw[HN.out];rfl,hB⟩
end Go.Proofs.YtaghcadlgbnbdaaGreatDoor
namespace Go.WW
open Go.RowKit
abbrev EE:=aI×Entry
def bC(x:EE):Array Value:=ae x.1 x.2
def fB(w:World)(a:Option Addr)(X:List EE):Prop:=aO w 17 a X.length fun i cs=>∃x,X[i]?=some x∧cs=bC x
theorem fB.later{w w':World}(h:Below w.heap.size w w'){a:Option Addr}{X:List EE}(x:fB w a X):fB w' a X:=aO.later h (fun _ _ y=>y) x
theorem fB.at{w:World}{b o:Nat}{X:List EE}(x:fB w (some ⟨b,o,none⟩) X)(i:Nat)(h:i<X.length):row? w b (o+i*17) 17=some (ae X[i].1 X[i].2):=by
 obtain⟨b',o',cs,ha,hr,y,hy,rfl⟩:=x.2 i h
 cases ha
 rw[List.getElem?_eq_getElem h]at hy;cases hy
 exact hr
theorem fB.dR{w:World}{a:Option Addr}{X:List EE}(x:fB w a X)(h:∀y∈X,bz w y.1 y.2):iZ w a (X.map (·.2)):=by
 refine⟨by simpa using x.1,fun i hi=>?_⟩
 have hi':i<X.length:=by simpa using hi
 obtain⟨b,o,cs,ha,hr,y,hy,rfl⟩:=x.2 i hi'
 exact⟨b,o,_,ha,hr,y.2,y.1,by simp[hy],rfl,h y (List.mem_of_getElem? hy)⟩
theorem fB.dX{w:World}{base:Nat}{e:TypeId}{s:Sl}{X:List EE}(h:Own w base e 17 s (X.map bC))(hn:X.length≤lim):fB w s.a X:=
 aO.dX h (by simp) hn (fun i hi=>by simp at hi;exact⟨X[i],List.getElem?_eq_getElem hi,by simp⟩)
theorem uu{W w w':World}{E:TypeId}{k:Nat}{s:Sl}{rows:List (Array Value)}(h:Own w W.heap.size E k s rows)(hb:Below W.heap.size W w)(hg:w.grownBy w' s.blk):Below W.heap.size W w':=hb.grown hg hb.size (fun _ e=>(h.base e).1)
theorem ahN{α:Type}(X:List α)(i k:Nat)(h:k<X.length):(X.take (k+1)).eraseIdx i=if k=i then(X.take k).eraseIdx i else(X.take k).eraseIdx i++[X[k]]:=by
 rw[List.take_succ_eq_append_getElem h]
 have hl:(X.take k).length=k:=by simp;omega
 rcases Nat.lt_trichotomy i k with h1|h1|h1
 ·rw[if_neg (by omega),List.eraseIdx_append_of_lt_length (by omega)]
 ·subst h1
  have e:(X.take i).eraseIdx i=X.take i:=List.eraseIdx_of_length_le (by omega)
  rw[if_pos rfl,List.eraseIdx_append_of_length_le (by omega),e,hl,Nat.sub_self];simp
 ·rw[if_neg (by omega),List.eraseIdx_of_length_le (by simp;omega),List.eraseIdx_of_length_le (by omega)]
def Ob(X:List EE)(w:World)(e:Ending)(w':World):Prop:=∃s:Sl,e=.returned (.slice s.a X.length s.cap)∧Below w.heap.size w w'∧aZ w' (fresh w.heap.size w') (fun y=>fB y s.a X)
end Go.WW
namespace Go.Proofs.YtaghcadlgbnbdaaGreatDoor
open Go.RowKit Go.WW
def vK(T:TypeId)(n:Nat)(parts:Array (Nat×Value)):Sem Next:=do pure (.value (←Instr.buildSlice T n parts))
theorem ahO(ρ:Operand→Value)(dst:Option Tmp)(x:Operand)(ty:TypeId)(pos:String)(after:Array Edge)(guard:Option (Nat×Bool)):execOp ρ {dst,op:=.buildSlice 41 1 #[(0,x)],type:=ty,pos,after,guard}=vK 41 1 #[(0,ρ x)]:=by simp[execOp,vK]
theorem ahP(w:World)(r:aI)(d:Entry):(vK 41 1 #[(0,.agg (ae r d))]).run Tryz.prog w=.ok (.value (.slice (some ⟨w.heap.size,0,none⟩) 1 1)) (w.alloc (.cells (ae r d) 32)):=by kernel_rfl
theorem ahQ(ρ:Operand→Value)(dst:Option Tmp)(x:Operand)(ty:TypeId)(pos:String)(after:Array Edge)(guard:Option (Nat×Bool)):execOp ρ {dst,op:=.buildSlice 42 1 #[(0,x)],type:=ty,pos,after,guard}=vK 42 1 #[(0,ρ x)]:=by simp[execOp,vK]
theorem ahR(w:World)(p:ah):(vK 42 1 #[(0,.agg (az p))]).run Tryz.prog w=.ok (.value (.slice (some ⟨w.heap.size,0,none⟩) 1 1)) (w.alloc (.cells (az p) 35)):=by kernel_rfl
attribute [go_sem] ahP ahR
attribute [go_sem ↓] ahO ahQ
theorem vM:gJ Tryz.prog 41 32 17 248:=gJ.of Tryz.underlying41 (by kernel_rfl)
theorem WY(a:Option Addr)(cap:Nat)(X:List EE)(j:Nat)(w:World)(hX:fB w a X)(hj:j<X.length):Calls Tryz.prog 79 #[.slice a X.length cap,.int .i64 j] w (Ob (X.eraseIdx j) w):=by
 have hn:X.length≤4294967000:=hX.1
 rcases aO.addr hX with h0|⟨b,o,rfl,hb⟩
 ·omega
 go_enter Tryz.func79,Tryz.ntmps79
 go_wp2_with fail
 go_loopw [5,6] (fun ov i wr=>∃(k m:Nat) (so:Sl) (rows:List (Array Value)),k≤X.length∧m≤k∧i=.int .i64 k∧ov=.slice so.a m so.cap∧Hid (rows.length=m)∧Hid (rows=((X.take k).eraseIdx j).map bC)∧Below w.heap.size w wr∧Go.WW.Own wr w.heap.size 32 17 so rows) (fun _ i _=>X.length-(intOf i).toNat)
 case atStart=>exact⟨0,0,⟨none,0⟩,[],Nat.zero_le _,Nat.le_refl _,rfl,rfl,rfl,by simp[Hid],Below.refl _ _,Go.WW.Own.nil _ _ _ _⟩
 case round=>
  obtain⟨k,m,so,rows,hk,hm,rfl,rfl,hlr,hrw,hbr,hO⟩:=hrel
  by_cases hlt:k<X.length
  ·have hrow:=hX.at k hlt
   obtain⟨hcc,aU,hrr⟩:=bf hbr
   have hki:(k:Int)<(X.length:Int):=by omega
   have hte:=ahN X j k hlt
   by_cases hkj:k=j
   ·have ahS:((k:Int) != (j:Int))=false:=by simp[hkj]
    rw[if_pos hkj]at hte
    have HT:=Lib.hid (show rows=((X.take (k+1)).eraseIdx j).map bC by rw[hte];exact hrw.out)
    clear hte hkj
    go_wp2_with fail
    go_roundw
    case rel=>exact⟨k+1,m,so,rows,by omega,by omega,by go_num,rfl,hlr.out,HT.out,hbr,hO⟩
    case measure=>simp[intOf];omega
   ·have ahS:((k:Int) != (j:Int))=true:=by simp;omega
    rw[if_neg hkj]at hte
    have HT:=Lib.hid (show rows++[bC X[k]]=((X.take (k+1)).eraseIdx j).map bC by rw[hte,hrw.out];simp)
    clear hte hkj
    generalize hxk:X[k]=xk at *
    have hown:Go.WW.Own (wr.alloc (.cells (ae xk.1 xk.2) 32)) w.heap.size 32 17 so rows:=hO.kept fun g hg=>Below.heap_alloc _ _ _ (hO.base hg).2
    go_wp2_with (at_builtin;refine gK rfl (.tmp 16) (.tmp 21) _ rfl vM (n:=m) rfl hlr.out.symm hown rfl rfl (bJ.new _ (ae xk.1 xk.2) _ _ (by simp[go_sem]) (by simp[go_sem])) (by have:=hlr.out;rw[this];simp;omega) (by have h9:=hbr.size;simp;omega) ?_;intro s3 w3 hown3 hg3 fQ)
    have hb3:=uu hown (aC hbr _) hg3
    have HL:=Lib.hid (show(rows++[bC xk]).length=m+1 by have:=hlr.out;simp[this])
    clear hown hg3 fQ hO hlr hcc aU hrr
    go_wp2_with fail
    go_roundw
    case rel=>exact⟨k+1,m+1,s3,_,by omega,by omega,by go_num,rfl,HL.out,HT.out,hb3,hown3⟩
    case measure=>simp[intOf];omega
  ·obtain rfl:k=X.length:=by omega
   have h1:=hrw.out
   rw[List.take_of_length_le (Nat.le_refl _)]at h1
   have h2:=hlr.out
   subst h1
   have HM:=Lib.hid (show m=(X.eraseIdx j).length by rw[←h2];simp)
   go_wp2_with fail
   go_ret
   exact⟨so,by rw[←HM.out];rfl,hbr,fun y hy=>fB.dX (hO.kept fun _ hg=>hy _ (hO.base hg)) (by have:=List.length_eraseIdx_le X j;have:=hX.1;omega)⟩
end Go.Proofs.YtaghcadlgbnbdaaGreatDoor
namespace Go.WW
open Go.RowKit
abbrev dW(x:EE):aB:=x.2.name
def ng(e:EE)(X R:List EE)(k:Nat)(dn:Bool):Prop:=jH dV dW e X=R++(if dn then X.drop k else jH dV dW e (X.drop k))
theorem ahT(e:EE)(X:List EE):ng e X [] 0 false:=rfl
theorem ahU{e:EE}{X R:List EE}{k:Nat}(h:ng e X R k false)(hk:k<X.length)(hc:dV (dW e) (dW X[k])<0):ng e X (R++[e]++[X[k]]) (k+1) true:=by
 unfold ng at *
 rw[h,List.drop_eq_getElem_cons hk]
 simp[jH,hc]
theorem ahV{e:EE}{X R:List EE}{k:Nat}(h:ng e X R k false)(hk:k<X.length)(hc:¬dV (dW e) (dW X[k])<0):ng e X (R++[X[k]]) (k+1) false:=by
 unfold ng at *
 rw[h,List.drop_eq_getElem_cons hk]
 simp[jH,hc]
theorem ahW{e:EE}{X R:List EE}{k:Nat}(h:ng e X R k true)(hk:k<X.length):ng e X (R++[X[k]]) (k+1) true:=by
 unfold ng at *
 rw[h,List.drop_eq_getElem_cons hk]
 simp
theorem ahX{e:EE}{X R:List EE}{k:Nat}(h:ng e X R k true)(hk:X.length≤k):jH dV dW e X=R:=by
 unfold ng at h;rw[h,List.drop_of_length_le hk];simp
theorem ahY{e:EE}{X R:List EE}{k:Nat}(h:ng e X R k false)(hk:X.length≤k):jH dV dW e X=R++[e]:=by
 unfold ng at h;rw[h,List.drop_of_length_le hk];rfl
theorem ahZ(e:EE)(X:List EE):(jH dV dW e X).length=X.length+1:=by rw[(xg dW e X).length_eq];simp
end Go.WW
namespace Go.Proofs.YtaghcadlgbnbdaaGreatDoor
open Go.RowKit Go.WW
theorem ah0(a:Option Addr)(cap:Nat)(r:aI)(d:Entry)(w:World):Calls Tryz.prog 80 #[.slice a 0 cap,.agg (ae r d)] w (Ob [(r,d)] w):=by
 have hB:Below w.heap.size w (w.alloc (.cells (ae r d) 32)):=(Below.refl _ _).alloc (Nat.le_refl _) _
 have hbox:(w.alloc (.cells (ae r d) 32)).heap[w.heap.size]?=some (.cells (ae r d) 32):=World.alloc_heap_new _ _
 have hW:w.heap.size<(w.alloc (.cells (ae r d) 32)).heap.size:=by simp
 have Ey:row? (w.alloc (.cells (ae r d) 32)) w.heap.size 0 17=some (ae r d):=(bV hbox).trans (by kernel_rfl)
 go_enter Tryz.func80,Tryz.ntmps80
 go_wp2_with fail
 generalize (w.alloc (.cells (ae r d) 32))=W at *
 go_loopw [5,6,7] (fun ov dv iv wr=>∃(so:Sl) (m:Nat) (rows:List (Array Value)),iv=.int .i64 0∧dv=.bool false∧ov=.slice so.a m so.cap∧wr=W∧Hid (rows.length=m)∧Hid (rows=[])∧Go.WW.Own wr w.heap.size 32 17 so rows) (fun _ _ _ _=>0)
 case atStart=>exact⟨⟨none,0⟩,0,[],rfl,rfl,rfl,rfl,rfl,rfl,Go.WW.Own.nil _ _ _ _⟩
 case round=>
  obtain⟨so,m,rows,rfl,rfl,rfl,rfl,hlr,hr0,hO⟩:=hrel
  have hown:Go.WW.Own (wr.alloc (.cells (ae r d) 32)) w.heap.size 32 17 so rows:=hO.kept fun g hg=>Below.heap_alloc _ _ _ (hO.base hg).2
  go_wp2_with (at_builtin;refine gK rfl (.tmp 40) (.tmp 42) _ rfl vM (n:=m) (s:=so) rfl hlr.out.symm hown rfl rfl (bJ.new _ (ae r d) _ _ (by simp[go_sem]) (by simp[go_sem])) (by rw[hr0.out];first|decide|simp) (by have h9:=hB.size;simp;omega) ?_;intro s3 w3 hown3 hg3 fQ)
  have hb3:=uu hown (aC hB _) hg3
  have HM:=Lib.hid (show m=0 by rw[←hlr.out,hr0.out];rfl)
  have HO:Go.WW.Own w3 w.heap.size 32 17 s3 ([(r,d)].map bC):=by have:=hown3;rw[hr0.out]at this;exact this
  go_wp2_with fail
  go_ret
  exact⟨s3,by rw[HM.out];rfl,hb3,fun y hy=>fB.dX (X:=[(r,d)]) (HO.kept fun _ hg=>hy _ (HO.base hg)) (by simp[lim])⟩
theorem WZ(a:Option Addr)(cap:Nat)(X:List EE)(r:aI)(d:Entry)(w:World)(hX:fB w a X)(hm:∀x∈X,bz w x.1 x.2)(he:bz w r d)(hn:X.length≤1000000):Calls Tryz.prog 80 #[.slice a X.length cap,.agg (ae r d)] w (Ob (jH dV dW (r,d) X) w):=by
 rcases aO.addr hX with h0|⟨b,o,rfl,hb⟩
 ·obtain rfl:X=[]:=List.eq_nil_of_length_eq_zero h0
  exact ah0 a cap r d w
 have hB:Below w.heap.size w (w.alloc (.cells (ae r d) 32)):=(Below.refl _ _).alloc (Nat.le_refl _) _
 have hbox:(w.alloc (.cells (ae r d) 32)).heap[w.heap.size]?=some (.cells (ae r d) 32):=World.alloc_heap_new _ _
 have hW:(w.alloc (.cells (ae r d) 32)).heap.size=w.heap.size+1:=by simp
 go_enter Tryz.func80,Tryz.ntmps80
 go_wp2_with fail
 generalize (w.alloc (.cells (ae r d) 32))=W at *
 go_loopw [5,6,7] (fun ov dv iv wr=>∃(k m:Nat) (dn:Bool) (so:Sl) (R:List EE),k≤X.length∧m≤k+1∧Hid (dn=false→m≤k)∧iv=.int .i64 k∧dv=.bool dn∧ov=.slice so.a m so.cap∧Hid (R.length=m)∧Hid (ng (r,d) X R k dn)∧Below W.heap.size W wr∧Go.WW.Own wr W.heap.size 32 17 so (R.map bC)) (fun _ _ iv _=>X.length-(intOf iv).toNat)
 case atStart=>exact⟨0,0,false,⟨none,0⟩,[],Nat.zero_le _,by omega,fun _=>Nat.le_refl _,rfl,rfl,rfl,rfl,ahT _ _,Below.refl _ _,Go.WW.Own.nil _ _ _ _⟩
 case round=>
  obtain⟨k,m,dn,so,R,hk,hmk,hdn,rfl,rfl,rfl,hlr,hI,hbr,hO⟩:=hrel
  have hW2:w.heap.size<wr.heap.size:=by have:=hbr.size;omega
  have hbw:b<wr.heap.size:=by omega
  have hbx:wr.heap[w.heap.size]?=some (.cells (ae r d) 32):=(hbr.block _ (by omega)).trans hbox
  have Ey:row? wr w.heap.size 0 17=some (ae r d):=(bV hbx).trans (by kernel_rfl)
  have hx2:row? wr w.heap.size 0 2=some (ak r.parts d.name):=vJ Ey
  by_cases hlt:k<X.length
  ·have hki:(k:Int)<(X.length:Int):=by omega
   have hrow:row? wr b (o+k*17) 17=some (ae X[k].1 X[k].2):=(fO ((ag hB hbr).block b hb) _ _).trans (hX.at k hlt)
   have hrow0:=hX.at k hlt
   have hrow2:=vJ hrow
   have hmk':=hm X[k] (List.getElem_mem hlt)
   have hBr:=ag hB hbr
   cases dn
   ·by_cases hc:dV d.name X[k].2.name<0
    ·have HI:=Lib.hid (ahU hI.out hlt hc)
     generalize X[k]=x at *
     go_wp2_with fail
     refine dP (Below.refl _ wr) (by kernel_rfl) (by kernel_rfl) ?_
     repeat (go_big_quiet_step ((go_at_call 129;rename_i xw;exact Calls.gX (WV _ _ _ _ _ ((he.name.later hBr).later xw.b) ((hmk'.name.later hBr).later xw.b)))))
     refine wpQuiet_nil ?_
     intro w2 hb2
     have aqY:row? w2 w.heap.size 0 17=some (ae r d):=(fO (hb2.block _ hW2) _ _).trans Ey
     have hO2:Go.WW.Own (w2.alloc (.cells (ae r d) 32)) W.heap.size 32 17 so (R.map bC):=hO.kept fun g hg=>by rw[Below.heap_alloc _ _ _ (Nat.lt_of_lt_of_le (hO.base hg).2 hb2.size)];exact hb2.block g (hO.base hg).2
     have hb2':=ag hbr hb2
     have hW3:w.heap.size<w2.heap.size:=by have:=hb2'.size;omega
     go_wp2_with (first
      |(at_builtin;refine gK rfl (.tmp 27) (.tmp 29) _ rfl vM (n:=m) rfl (by have:=hlr.out;simp[this]) hO2 rfl rfl (bJ.new _ (ae r d) _ _ (by simp[go_sem]) (by simp[go_sem])) (by have:=hlr.out;simp[this];omega) (by have h9:=hb2'.size;simp;omega) ?_;intro s3 w3 hown3 hg3 fQ;have hb3:=uu hO2 (aC hb2' _) hg3;have hrow3:=(fO ((ag hB hb3).block b hb) (o+k*17) 17).trans hrow0;have hbw3:=Nat.lt_of_lt_of_le hb (ag hB hb3).size)
      |(have hO3:Go.WW.Own (w3.alloc (.cells (ae x.1 x.2) 32)) W.heap.size 32 17 s3 (R.map bC++[ae r d]):=hown3.kept fun g hg=>Below.heap_alloc _ _ _ (hown3.base hg).2
        at_builtin;refine gK rfl (.tmp 31) (.tmp 36) _ rfl vM (n:=m+1) (s:=s3) rfl (by have:=hlr.out;simp[this]) hO3 rfl rfl (bJ.new _ (ae x.1 x.2) _ _ (by simp[go_sem]) (by simp[go_sem])) (by have:=hlr.out;simp[this];omega) (by have h9:=hb3.size;simp;omega) ?_;intro s4 w4 hown4 hg4 Oc;have hb4:=uu hO3 (aC hb3 _) hg4))
     have HL:=Lib.hid (show(R++[(r,d)]++[x]).length=m+1+1 by have:=hlr.out;simp[this])
     have HO:Go.WW.Own w4 W.heap.size 32 17 s4 ((R++[(r,d)]++[x]).map bC):=by simpa[bC]using hown4
     go_roundw
     case rel=>exact⟨k+1,m+1+1,true,s4,_,by omega,by have:=hdn.out (by trivial);omega,(fun h=>by cases h),by go_num,rfl,rfl,HL.out,HI.out,hb4,HO⟩
     case measure=>simp[intOf];omega
    ·have HI:=Lib.hid (ahV hI.out hlt hc)
     generalize X[k]=x at *
     go_wp2_with fail
     refine dP (Below.refl _ wr) (by kernel_rfl) (by kernel_rfl) ?_
     repeat (go_big_quiet_step ((go_at_call 129;rename_i xw;exact Calls.gX (WV _ _ _ _ _ ((he.name.later hBr).later xw.b) ((hmk'.name.later hBr).later xw.b)))))
     refine wpQuiet_nil ?_
     intro w2 hb2
     have hb2':=ag hbr hb2
     have hrow3:=(fO ((ag hB hb2').block b hb) (o+k*17) 17).trans hrow0
     have hbw3:=Nat.lt_of_lt_of_le hb (ag hB hb2').size
     have hO3:Go.WW.Own (w2.alloc (.cells (ae x.1 x.2) 32)) W.heap.size 32 17 so (R.map bC):=hO.kept fun g hg=>by rw[Below.heap_alloc _ _ _ (Nat.lt_of_lt_of_le (hO.base hg).2 hb2.size)];exact hb2.block g (hO.base hg).2
     clear Ey hx2 hrow hrow2
     go_wp2_with (at_builtin;refine gK rfl (.tmp 31) (.tmp 36) _ rfl vM (n:=m) (s:=so) rfl (by have:=hlr.out;simp[this]) hO3 rfl rfl (bJ.new _ (ae x.1 x.2) _ _ (by simp[go_sem]) (by simp[go_sem])) (by have:=hlr.out;simp[this];omega) (by have h9:=hb2'.size;simp;omega) ?_;intro s4 w4 hown4 hg4 Oc;have hb4:=uu hO3 (aC hb2' _) hg4)
     have HL:=Lib.hid (show(R++[x]).length=m+1 by have:=hlr.out;simp[this])
     have HO:Go.WW.Own w4 W.heap.size 32 17 s4 ((R++[x]).map bC):=by simpa[bC]using hown4
     go_roundw
     case rel=>exact⟨k+1,m+1,false,s4,_,by omega,by omega,(fun _=>by have:=hdn.out (by trivial);omega),by go_num,rfl,rfl,HL.out,HI.out,hb4,HO⟩
     case measure=>simp[intOf];omega
   ·have HI:=Lib.hid (ahW hI.out hlt)
    generalize X[k]=x at *
    go_wp2_with fail
    refine dP (Below.refl _ wr) (by kernel_rfl) (by kernel_rfl) ?_
    repeat (go_big_quiet_step (fail))
    refine wpQuiet_nil ?_
    intro w2 hb2
    have hb2':=ag hbr hb2
    have hrow3:=(fO ((ag hB hb2').block b hb) (o+k*17) 17).trans hrow0
    have hbw3:=Nat.lt_of_lt_of_le hb (ag hB hb2').size
    have hO3:Go.WW.Own (w2.alloc (.cells (ae x.1 x.2) 32)) W.heap.size 32 17 so (R.map bC):=hO.kept fun g hg=>by rw[Below.heap_alloc _ _ _ (Nat.lt_of_lt_of_le (hO.base hg).2 hb2.size)];exact hb2.block g (hO.base hg).2
    clear Ey hx2 hrow hrow2
    go_wp2_with (at_builtin;refine gK rfl (.tmp 31) (.tmp 36) _ rfl vM (n:=m) (s:=so) rfl (by have:=hlr.out;simp[this]) hO3 rfl rfl (bJ.new _ (ae x.1 x.2) _ _ (by simp[go_sem]) (by simp[go_sem])) (by have:=hlr.out;simp[this];omega) (by have h9:=hb2'.size;simp;omega) ?_;intro s4 w4 hown4 hg4 Oc;have hb4:=uu hO3 (aC hb2' _) hg4)
    have HL:=Lib.hid (show(R++[x]).length=m+1 by have:=hlr.out;simp[this])
    have HO:Go.WW.Own w4 W.heap.size 32 17 s4 ((R++[x]).map bC):=by simpa[bC]using hown4
    go_roundw
    case rel=>exact⟨k+1,m+1,true,s4,_,by omega,by omega,(fun h=>by cases h),by go_num,rfl,rfl,HL.out,HI.out,hb4,HO⟩
    case measure=>simp[intOf];omega
  ·have hBr:=ag hB hbr
   cases dn
   ·have HI:=Lib.hid (ahY hI.out (by omega))
    have hown:Go.WW.Own (wr.alloc (.cells (ae r d) 32)) W.heap.size 32 17 so (R.map bC):=hO.kept fun g hg=>Below.heap_alloc _ _ _ (hO.base hg).2
    go_wp2_with (at_builtin;refine gK rfl (.tmp 40) (.tmp 42) _ rfl vM (n:=m) (s:=so) rfl (by have:=hlr.out;simp[this]) hown rfl rfl (bJ.new _ (ae r d) _ _ (by simp[go_sem]) (by simp[go_sem])) (by have:=hlr.out;simp[this];omega) (by have h9:=hbr.size;simp;omega) ?_;intro s3 w3 hown3 hg3 fQ)
    have hb3:=uu hown (aC hbr _) hg3
    have HL:=Lib.hid (show(R++[(r,d)]).length=m+1 by have:=hlr.out;simp[this])
    have HO:Go.WW.Own w3 W.heap.size 32 17 s3 ((R++[(r,d)]).map bC):=by simpa[bC]using hown3
    go_wp2_with fail
    go_ret
    refine⟨s3,by rw[HI.out,HL.out];rfl,ag hB hb3,?_⟩
    rw[HI.out]
    exact fun y hy=>fB.dX (HO.kept fun _ hg=>hy _ ⟨by have:=(HO.base hg).1;omega,(HO.base hg).2⟩) (by rw[HL.out];unfold lim;omega)
   ·have HI:=Lib.hid (ahX hI.out (by omega))
    go_wp2_with fail
    go_ret
    refine⟨so,by rw[HI.out,hlr.out];rfl,hBr,?_⟩
    rw[HI.out]
    exact fun y hy=>fB.dX (hO.kept fun _ hg=>hy _ ⟨by have:=(hO.base hg).1;omega,(hO.base hg).2⟩) (by rw[hlr.out];unfold lim;omega)
end Go.Proofs.YtaghcadlgbnbdaaGreatDoor
namespace Go.WW
open Go.RowKit
def kJ(re:ByteArray)(s:Int)(n e p:Nat):Array Value:=#[.string re,.int .i64 s,.map (some n),.map (some e),.map (some p)]
theorem zf(re:ByteArray)(s s':Int)(n e p:Nat):(kJ re s n e p).setIfInBounds 1 (.int .i64 s')=kJ re s' n e p:=by kernel_rfl
theorem ah2(re:ByteArray)(s:Int)(n e p:Nat):(kJ re s n e p)[0]?=some (.string re):=rfl
theorem ah3(re:ByteArray)(s:Int)(n e p:Nat):(kJ re s n e p)[1]?=some (.int .i64 s):=rfl
theorem ah4(re:ByteArray)(s:Int)(n e p:Nat):(kJ re s n e p)[2]?=some (.map (some n)):=rfl
theorem ah5(re:ByteArray)(s:Int)(n e p:Nat):(kJ re s n e p)[3]?=some (.map (some e)):=rfl
theorem ah6(re:ByteArray)(s:Int)(n e p:Nat):(kJ re s n e p)[4]?=some (.map (some p)):=rfl
attribute [go_sem] ah2 ah3 ah4 ah5 ah6
end Go.WW
namespace Go.Proofs.YtaghcadlgbnbdaaGreatDoor
open Go.RowKit Go.WW
theorem lq(b:Nat)(re:ByteArray)(w:World)(hc:w.cell? ⟨b,0,none⟩=some (.string re))(hre:¬re=⟨#[]⟩):Calls Tryz.prog 27 #[.pointer (some ⟨b,0,none⟩)] w fun e w'=>e=.returned (.bool false)∧w=w':=by
 have h0:=kD _ _ hre
 have h1:¬re.toList=[]:=fun h=>hre (toList_inj (b:=⟨#[]⟩) (by rw[h,ByteArray.toList_eq]))
 have h2:re.toList.isEmpty=false:=by cases h:re.toList<;>simp_all
 clear hre
 go_enter Tryz.func27,Tryz.ntmps27
 go_wp2
 go_ret
 exact⟨rfl,rfl⟩
theorem rH(s:Sl)(p:aB)(w:World)(hp:bg w s p)(hok:bD p=true):Calls Tryz.prog 55 #[.agg (ak s p)] w fun e w'=>e=.returned (.string (textOf p))∧Below w.heap.size w w':=by
 have hB:Below w.heap.size w (w.alloc (.cells (ak s p) 25)):=(Below.refl _ _).alloc (Nat.le_refl _) _
 go_enter Tryz.func55,Tryz.ntmps55
 go_wp2_with fail
 refine(VX _ _ _ (hp.later hB) hok).mono ?_
 rintro e w2 ⟨rfl,hb2⟩
 dsimp only
 go_wp2_with fail
 go_ret
 exact⟨rfl,ag hB hb2⟩
theorem zg(b:Nat)(s:Int)(w:World)(hc:w.cell? ⟨b,1,none⟩=some (.int .i64 s))(hf:w.frozen? ⟨b,1,none⟩=false)(h0:0≤s)(h1:s<1000000):Calls Tryz.prog 57 #[.pointer (some ⟨b,0,none⟩)] w fun e w'=>e=.returned (.tuple #[])∧w'=w.setCell ⟨b,1,none⟩ (.int .i64 (s+1)):=by
 have h2:(s == 4611686018427387903)=false:=by simp;omega
 have hb:b<w.heap.size:=World.block_lt_of_cell? w _ hc
 go_enter Tryz.func57,Tryz.ntmps57
 go_wp2
 go_end0
 exact⟨rfl,rfl⟩
end Go.Proofs.YtaghcadlgbnbdaaGreatDoor
namespace Go.WW
open Go.RowKit
def vN(fails last:Int):Entry:={ed with name:=⟨[⟨#[97]⟩],⟨#[82]⟩⟩,fails:=fails,iw:=last}
def Oe(fails:Int):ah:=⟨⟨#[112]⟩,1,1,0,0,0,0,fails,100,50⟩
def aqZ(w:World)(e:Ending)(w':World):Prop:=∃r,e=.returned (.tuple #[.agg (ae r (vN 0 0)),.agg (az (Oe 3))])∧Below w.heap.size w w'∧aZ w' (fresh w.heap.size w') (fun x=>bz x r (vN 0 0))
end Go.WW
namespace Go.Proofs.YtaghcadlgbnbdaaGreatDoor
open Go.RowKit Go.WW
theorem ah7(w:World)(g cap:Nat):(mW 32 #[(0,.agg #[.slice (some ⟨g,0,none⟩) 1 cap,.string ⟨#[82]⟩])]).run Tryz.prog w=.ok (.value (.agg (ae {eX with parts:=⟨some ⟨g,0,none⟩,cap⟩} (vN 0 0)))) w:=by kernel_rfl
theorem ah8(w:World):(mW 35 #[(0,.string ⟨#[112]⟩),(1,.int .i64 1),(2,.int .i64 1),(7,.int .i64 3),(8,.int .i64 100),(9,.int .i64 50)]).run Tryz.prog w=.ok (.value (.agg (az (Oe 3)))) w:=by kernel_rfl
attribute [go_sem] ah7 ah8
structure bT(w:World)(b n e p:Nat)(re:ByteArray)(s:Int)(N:List (ByteArray×Value))(E:List EE)(P:List ah):Prop where
 box:w.heap[b]?=some (.cells (kJ re s n e p) 91)
 nm:MapOf w n N
 em:MapOf w e (E.map fun x=>(textOf x.2.name,Value.agg (bC x)))
 pm:MapOf w p (P.map fun q=>(q.name,Value.agg (az q)))
 ne:n≠e∧n≠p∧e≠p
theorem gu{w:World}{b n:Nat}{c:Array Value}{t:TypeId}{m:List (ByteArray×Value)}(h:w.heap[b]?=some (.cells c t))(hm:MapOf w n m):b≠n:=by
 rintro rfl
 obtain⟨es,clock,h1,_⟩:=hm
 rw[h]at h1;cases h1
theorem bT.later{w w':World}{b n e p:Nat}{re:ByteArray}{s:Int}{N:List (ByteArray×Value)}{E:List EE}{P:List ah}(h:bT w b n e p re s N E P)(hb:Below w.heap.size w w'):bT w' b n e p re s N E P:=
 ⟨aA hb h.box,h.nm.at (hb.block n h.nm.lt),h.em.at (hb.block e h.em.lt),h.pm.at (hb.block p h.pm.lt),h.ne⟩
theorem Og(w:World)(b:Nat)(clock:Nat)(h:w.heap[b]?=some (.map #[] clock)):MapOf w b []:=⟨#[],clock,h,by simp,by simp,by simp,by simp⟩
theorem W9(re:ByteArray)(w:World)(hs:re.size≤lim)(hok:gZ re=true):Calls Tryz.prog 13 #[.string re] w fun x w'=>∃b n e p,x=.returned (.tuple #[.pointer (some ⟨b,0,none⟩),.int .i64 0])∧Below w.heap.size w w'∧bT w' b n e p re 0 [] [] []∧w.heap.size≤b∧w.heap.size≤n∧w.heap.size≤e∧w.heap.size≤p:=by
 have hR:=UN re w hs
 rw[hok]at hR
 have HR:=Lib.hid hR
 clear hR
 have hmm:=@run_makeMap Tryz.prog
 go_enter Tryz.func13,Tryz.ntmps13
 go_wp2_with fail
 refine HR.out.mono ?_
 rintro x w1 ⟨rfl,hb1⟩
 dsimp only
 go_wp2_with fail
 have hs1:=hb1.size
 refine bodyPost_ret (results_tmp2 (by rfl) _ _ _) rfl ⟨w1.heap.size+1+1+1,w1.heap.size,w1.heap.size+1,w1.heap.size+1+1,rfl,?_,⟨?_,?_,?_,?_,by omega⟩,by omega,by omega,by omega,by omega⟩
 ·exact ag hb1 (((((Below.refl _ w1).alloc (Nat.le_refl _) _).alloc (by simp) _).alloc (by simp;omega) _).alloc (by simp;omega) _)
 ·have:=World.alloc_heap_new (((w1.alloc (.map #[] 0)).alloc (.map #[] 0)).alloc (.map #[] 0)) (.cells (kJ re 0 w1.heap.size (w1.heap.size+1) (w1.heap.size+1+1)) 91)
  rw[show(((w1.alloc (.map #[] 0)).alloc (.map #[] 0)).alloc (.map #[] 0)).heap.size=w1.heap.size+1+1+1 by simp]at this
  exact this
 ·refine Og _ _ 0 ?_
  rw[Below.heap_alloc _ _ _ (by simp;omega),Below.heap_alloc _ _ _ (by simp;omega),Below.heap_alloc _ _ _ (by simp)];exact World.alloc_heap_new _ _
 ·refine Og _ _ 0 ?_
  rw[Below.heap_alloc _ _ _ (by first|(simp;done)|(simp;omega)),Below.heap_alloc _ _ _ (by first|(simp;done)|(simp;omega))]
  have:=World.alloc_heap_new (w1.alloc (.map #[] 0)) (.map #[] 0);simpa using this
 ·refine Og _ _ 0 ?_
  rw[Below.heap_alloc _ _ _ (by simp)]
  have:=World.alloc_heap_new ((w1.alloc (.map #[] 0)).alloc (.map #[] 0)) (.map #[] 0);simpa using this
theorem fH{w:World}{b n e p:Nat}{re:ByteArray}{s:Int}(h:w.heap[b]?=some (.cells (kJ re s n e p) 91)):w.cell? ⟨b,0,none⟩=some (.string re)∧w.cell? ⟨b,1,none⟩=some (.int .i64 s)∧w.cell? ⟨b,2,none⟩=some (.map (some n))∧w.cell? ⟨b,3,none⟩=some (.map (some e))∧w.cell? ⟨b,4,none⟩=some (.map (some p))∧w.frozen? ⟨b,1,none⟩=false∧b<w.heap.size:=by
 obtain⟨hc,hf,_,hl⟩:=ai h
 exact⟨hc 0,hc 1,hc 2,hc 3,hc 4,hf 1,hl⟩
theorem IK{w:World}{p:Nat}{P:List ah}(h:MapOf w p (P.map fun q=>(q.name,Value.agg (az q))))(q:ah)(hq:q∈P):(Instr.lookup 87 (.map (some p)) (.string q.name) true).run Tryz.prog w=.ok (.tuple #[.agg (az q),.bool true]) w:=by
 have:=MF (P:=Tryz.prog) true Tryz.underlying87 Tryz.underlying9 h (List.mem_map.2 ⟨q,hq,rfl⟩)
 simpa using this
end Go.Proofs.YtaghcadlgbnbdaaGreatDoor
namespace Go.WW
open Go.RowKit
def ni:ah:=⟨⟨#[]⟩,0,0,0,0,0,0,0,0,0⟩
theorem Xa{P:Program}{w:World}{b:Nat}{m:List (ByteArray×Value)}{mty kt et ty:TypeId}{tY:Array TypeId}(ht:tY[0]?=some mty)(hm:P.underlying mty=some (.map kt et))(h:MapOf w b m):(Builtin.len_ tY ty #[.map (some b)]).run P w=.ok (.int .i64 (m.length:Int)) w:=by
 obtain⟨es,clock,hb,hes⟩:=h.len
 simp[Builtin.len_,ht,run_underlying hm,MapKept.run_getObj_map hb,Result.andThen,goInt,hes]
def qj(P:List ah)(q:ah):List ah:=if P.any (fun x=>decide (x.name=q.name))=true then P.map (fun x=>if x.name=q.name then q else x)else P++[q]
theorem Xb(P:List ah)(q:ah):nS (P.map fun x=>(x.name,Value.agg (az x))) q.name (.agg (az q))=(qj P q).map fun x=>(x.name,Value.agg (az x)):=by
 have h:hasK (P.map fun x=>(x.name,Value.agg (az x))) q.name=P.any (fun x=>decide (x.name=q.name)):=by
  unfold hasK;rw[List.any_map];rfl
 unfold nS qj
 rw[h]
 split
 ·rw[List.map_map,List.map_map]
  refine List.map_congr_left fun x _=>?_
  simp only[Function.comp]
  split<;>rfl
 ·simp
end Go.WW
namespace Go.Proofs.YtaghcadlgbnbdaaGreatDoor
open Go.RowKit Go.WW
theorem IL{w:World}{p:Nat}{P:List ah}(h:MapOf w p (P.map fun q=>(q.name,Value.agg (az q))))(k:ByteArray)(hq:P.any (fun x=>decide (x.name=k))=false):(Instr.lookup 87 (.map (some p)) (.string k) true).run Tryz.prog w=.ok (.tuple #[.agg (az ni),.bool false]) w:=by
 have hn:k∉(P.map fun q=>(q.name,Value.agg (az q))).map (·.1):=by
  intro hk
  rw[List.map_map]at hk
  obtain⟨x,hx,e⟩:=List.mem_map.1 hk
  have:=List.any_eq_false.1 hq x hx
  simp only[Function.comp]at e
  simp[e]at this
 have:=MG (P:=Tryz.prog) (z:=.agg (az ni)) true Tryz.underlying87 Tryz.underlying9 h (by kernel_rfl) hn
 simpa using this
def aX(b n e p:Nat):Nat→Prop:=fun k=>k=b∨k=n∨k=e∨k=p
theorem ah9(b n e p:Nat)(re:ByteArray)(s:Int)(N:List (ByteArray×Value))(E:List EE)(P:List ah)(q:ah)(w:World)(h:bT w b n e p re s N E P)(hre:¬re=⟨#[]⟩)(hs:q.name.size≤lim)(hv:dN q=false):Calls Tryz.prog 24 #[.pointer (some ⟨b,0,none⟩),.agg (az q)] w fun x w'=>x=.returned (.int .i64 2)∧Below w.heap.size w w':=by
 have hB:Below w.heap.size w (w.alloc (.cells (az q) 35)):=(Below.refl _ _).alloc (Nat.le_refl _) _
 have h':=h.later hB
 have hx3:(w.alloc (.cells (az q) 35)).heap[w.heap.size]?=some (.cells (az q) 35):=World.alloc_heap_new _ _
 go_enter Tryz.func24,Tryz.ntmps24
 go_wp2_with fail
 generalize (w.alloc (.cells (az q) 35))=W at *
 obtain⟨c0,c1,c2,c3,c4,f1,hl⟩:=fH h'.box
 obtain⟨hc,hf,hr,hlt⟩:=ai hx3
 refine(lq _ _ _ c0 hre).mono ?_
 rintro x w' ⟨rfl,rfl⟩
 dsimp only
 go_wp2_with fail
 refine(MZ _ _ hs).mono ?_
 rintro x w2 ⟨rfl,hb2⟩
 rw[hv]
 dsimp only
 go_wp2_with fail
 go_ret
 exact⟨rfl,ag hB hb2⟩
theorem aia(b n e p:Nat)(re:ByteArray)(s:Int)(N:List (ByteArray×Value))(E:List EE)(P:List ah)(q:ah)(w:World)(h:bT w b n e p re s N E P)(hre:¬re=⟨#[]⟩)(hs:q.name.size≤lim)(hv:dN q=true)(hP:P.any (fun x=>decide (x.name=q.name))=false)(hn:P.length<64)(hs0:0≤s)(hs1:s<1000000):Calls Tryz.prog 24 #[.pointer (some ⟨b,0,none⟩),.agg (az q)] w fun x w'=>x=.returned (.int .i64 0)∧But (aX b n e p) w w'∧bT w' b n e p re (s+1) N E (qj P q):=by
 have hB:Below w.heap.size w (w.alloc (.cells (az q) 35)):=(Below.refl _ _).alloc (Nat.le_refl _) _
 have h':=h.later hB
 have hx3:(w.alloc (.cells (az q) 35)).heap[w.heap.size]?=some (.cells (az q) 35):=World.alloc_heap_new _ _
 go_enter Tryz.func24,Tryz.ntmps24
 go_wp2_with fail
 generalize (w.alloc (.cells (az q) 35))=W at *
 obtain⟨c0,c1,c2,c3,c4,f1,hl⟩:=fH h'.box
 obtain⟨hc,hf,hr,hlt⟩:=ai hx3
 refine(lq _ _ _ c0 hre).mono ?_
 rintro x w' ⟨rfl,rfl⟩
 dsimp only
 go_wp2_with fail
 refine(MZ _ _ hs).mono ?_
 rintro x w2 ⟨rfl,hb2⟩
 rw[hv]
 have h2:=h'.later hb2
 have hx32:=aA hb2 hx3
 clear c0 c1 c2 c3 c4 f1 hl hc hf hr hlt
 obtain⟨c0,c1,c2,c3,c4,f1,hl⟩:=fH h2.box
 obtain⟨hc,hf,hr,hlt⟩:=ai hx32
 have hlk:∀x:Later w2,(Instr.lookup 87 (.map (some p)) (.string q.name) true).run Tryz.prog x.w=.ok (.tuple #[.agg (az ni),.bool false]) x.w:=fun x=>IL (h2.pm.at (x.b.block p h2.pm.lt)) _ hP
 dsimp only
 go_wp2_with fail
 refine xh (Below.refl _ w2) (by kernel_rfl) (by kernel_rfl) ?_
 intro w3 hb3
 repeat (first|(refine aP (by rfl) ?_)|(refine aN (by rfl) (by rfl) (fun K hK=>?_);go_big_quiet_op;refine hK _ ?_;clear hK K))
 refine aS (by rfl) (by rfl) (fun K hK=>?_)
 go_wp2_with fail
 refine hK _ _ (dC (aC hb3 _)) ?_
 clear hK K
 repeat (first|(refine aP (by rfl) ?_)|(refine aN (by rfl) (by rfl) (fun K hK=>?_);go_big_quiet_op;refine hK _ ?_;clear hK K))
 refine aS (by rfl) (by rfl) (fun K hK=>?_)
 go_wp2_with fail
 refine hK _ _ (dC (aC hb3 (.cells (az ni) 35))) ?_
 clear hK K
 repeat (first|(refine aP (by rfl) ?_)|(refine aN (by rfl) (by rfl) (fun K hK=>?_);go_big_quiet_op;refine hK _ ?_;clear hK K))
 refine bW ?_
 have hb4:=aC hb3 (.cells (az ni) 35)
 clear hb3 hlk
 generalize (w3.alloc (.cells (az ni) 35))=V at *
 have h4:=h2.later hb4
 have hx34:=aA hb4 hx32
 clear c0 c1 c2 c3 c4 f1 hl hc hf hr hlt
 obtain⟨c0,c1,c2,c3,c4,f1,hl⟩:=fH h4.box
 obtain⟨hc,hf,hr,hlt⟩:=ai hx34
 have hln:=Xa (P:=Tryz.prog) (ty:=3) (tY:=#[87]) rfl Tryz.underlying87 h4.pm
 rw[List.length_map]at hln
 have h64:¬(64:Int)≤(P.length:Int):=by omega
 have hbp:b≠p:=gu h4.box h4.pm
 have hwp:w.heap.size≠p:=gu hx34 h4.pm
 have nb:=aT hbp
 have nw:=aT hwp
 obtain⟨U,hrun,rJ,fA,Xc⟩:=AL (P:=Tryz.prog) (k:=q.name) (v:=.agg (az q)) (w:=V.drew) Tryz.underlying87 Tryz.underlying9 (h4.pm.at rfl)
 rw[Xb]at rJ
 have rM:But (one p) V U:=⟨fA.os,fA.tape,fA.output,fA.size,fA.block⟩
 go_wp2_with fail
 refine oP (one p) (But.refl _ V) (by kernel_rfl) (by kernel_rfl) ?_
 repeat (first|(refine aP (by rfl) ?_)|(refine aN (by rfl) (by rfl) (fun K hK=>?_);go_big_quiet_op;refine hK _ ?_;clear hK K))
 refine aS (by rfl) (by rfl) (fun K hK=>?_)
 go_wp2_with fail
 refine hK _ _ (bI rM) ?_
 clear hK K
 repeat (first|(refine aP (by rfl) ?_)|(refine aN (by rfl) (by rfl) (fun K hK=>?_);go_big_quiet_op;refine hK _ ?_;clear hK K))
 refine bW ?_
 have jC:U.heap[b]?=some (.cells (kJ re s n e p) 91):=(rM.block b hl nb).trans h4.box
 obtain⟨lu,vO,IM,IP⟩:=ai jC
 have hc91:=lu 1
 have vP:=vO 1
 go_wp2_with fail
 refine(zg b s U hc91 vP hs0 hs1).mono ?_
 rintro x w' ⟨rfl,rfl⟩
 dsimp only
 go_wp2_with fail
 go_ret
 have hnb:n≠b:=fun e'=>gu h4.box h4.nm e'.symm
 have heb:e≠b:=fun e'=>gu h4.box h4.em e'.symm
 refine⟨rfl,?_,⟨?_,?_,?_,?_,h.ne⟩⟩
 ·have iE:=ag (ag hB hb2) hb4
  refine⟨fA.os.trans iE.os,fA.tape.trans iE.tape,fA.output.trans iE.output,?_,fun k hk hn'=>?_⟩
  ·show w.heap.size≤(U.setCell ⟨b,1,none⟩ (.int .i64 (s+1))).heap.size
   have:=iE.size
   have:=fA.size
   simp only[World.setCell,Array.size_modify]
   exact Nat.le_trans ‹w.heap.size≤V.heap.size› ‹_›
  ·rw[Below.heap_setCell _ _ _ _ (show k≠b from fun e'=>hn' (.inl e')),rM.block k (Nat.lt_of_lt_of_le hk iE.size) (aT (fun e'=>hn' (.inr (.inr (.inr e'))))),iE.block k hk]
 ·rw[cZ _ jC,zf]
 ·exact h4.nm.at ((Below.heap_setCell _ _ _ _ hnb).trans (rM.block n h4.nm.lt (aT h.ne.2.1)))
 ·exact h4.em.at ((Below.heap_setCell _ _ _ _ heb).trans (rM.block e h4.em.lt (aT h.ne.2.2)))
 ·exact rJ.at (Below.heap_setCell _ _ _ _ (Ne.symm hbp))
theorem aib(b n e p:Nat)(re:ByteArray)(s:Int)(N:List (ByteArray×Value))(E:List EE)(P:List ah)(q:ah)(w:World)(h:bT w b n e p re s N E P)(hre:¬re=⟨#[]⟩)(hs:q.name.size≤lim)(hv:dN q=true)(q0:ah)(hq0:q0∈P)(hnm:q0.name=q.name)(hs0:0≤s)(hs1:s<1000000):Calls Tryz.prog 24 #[.pointer (some ⟨b,0,none⟩),.agg (az q)] w fun x w'=>x=.returned (.int .i64 0)∧But (aX b n e p) w w'∧bT w' b n e p re (s+1) N E (qj P q):=by
 have hB:Below w.heap.size w (w.alloc (.cells (az q) 35)):=(Below.refl _ _).alloc (Nat.le_refl _) _
 have h':=h.later hB
 have hx3:(w.alloc (.cells (az q) 35)).heap[w.heap.size]?=some (.cells (az q) 35):=World.alloc_heap_new _ _
 go_enter Tryz.func24,Tryz.ntmps24
 go_wp2_with fail
 generalize (w.alloc (.cells (az q) 35))=W at *
 obtain⟨c0,c1,c2,c3,c4,f1,hl⟩:=fH h'.box
 obtain⟨hc,hf,hr,hlt⟩:=ai hx3
 refine(lq _ _ _ c0 hre).mono ?_
 rintro x w' ⟨rfl,rfl⟩
 dsimp only
 go_wp2_with fail
 refine(MZ _ _ hs).mono ?_
 rintro x w2 ⟨rfl,hb2⟩
 rw[hv]
 have h2:=h'.later hb2
 have hx32:=aA hb2 hx3
 clear c0 c1 c2 c3 c4 f1 hl hc hf hr hlt
 obtain⟨c0,c1,c2,c3,c4,f1,hl⟩:=fH h2.box
 obtain⟨hc,hf,hr,hlt⟩:=ai hx32
 have hlk:∀x:Later w2,(Instr.lookup 87 (.map (some p)) (.string q.name) true).run Tryz.prog x.w=.ok (.tuple #[.agg (az q0),.bool true]) x.w:=fun x=>hnm▸IK (h2.pm.at (x.b.block p h2.pm.lt)) q0 hq0
 dsimp only
 go_wp2_with fail
 refine xh (Below.refl _ w2) (by kernel_rfl) (by kernel_rfl) ?_
 intro w3 hb3
 repeat (first|(refine aP (by rfl) ?_)|(refine aN (by rfl) (by rfl) (fun K hK=>?_);go_big_quiet_op;refine hK _ ?_;clear hK K))
 refine aS (by rfl) (by rfl) (fun K hK=>?_)
 go_wp2_with fail
 refine hK _ _ (dC (aC hb3 _)) ?_
 clear hK K
 repeat (first|(refine aP (by rfl) ?_)|(refine aN (by rfl) (by rfl) (fun K hK=>?_);go_big_quiet_op;refine hK _ ?_;clear hK K))
 refine aS (by rfl) (by rfl) (fun K hK=>?_)
 go_wp2_with fail
 refine hK _ _ (dC (aC hb3 (.cells (az q0) 35))) ?_
 clear hK K
 repeat (first|(refine aP (by rfl) ?_)|(refine aN (by rfl) (by rfl) (fun K hK=>?_);go_big_quiet_op;refine hK _ ?_;clear hK K))
 refine bW ?_
 have hb4:=aC hb3 (.cells (az q0) 35)
 clear hb3 hlk
 generalize (w3.alloc (.cells (az q0) 35))=V at *
 have h4:=h2.later hb4
 have hx34:=aA hb4 hx32
 clear c0 c1 c2 c3 c4 f1 hl hc hf hr hlt
 obtain⟨c0,c1,c2,c3,c4,f1,hl⟩:=fH h4.box
 obtain⟨hc,hf,hr,hlt⟩:=ai hx34
 have hbp:b≠p:=gu h4.box h4.pm
 have hwp:w.heap.size≠p:=gu hx34 h4.pm
 have nb:=aT hbp
 have nw:=aT hwp
 obtain⟨U,hrun,rJ,fA,Xc⟩:=AL (P:=Tryz.prog) (k:=q.name) (v:=.agg (az q)) (w:=V.drew) Tryz.underlying87 Tryz.underlying9 (h4.pm.at rfl)
 rw[Xb]at rJ
 have rM:But (one p) V U:=⟨fA.os,fA.tape,fA.output,fA.size,fA.block⟩
 go_wp2_with fail
 refine oP (one p) (But.refl _ V) (by kernel_rfl) (by kernel_rfl) ?_
 repeat (first|(refine aP (by rfl) ?_)|(refine aN (by rfl) (by rfl) (fun K hK=>?_);go_big_quiet_op;refine hK _ ?_;clear hK K))
 refine aS (by rfl) (by rfl) (fun K hK=>?_)
 go_wp2_with fail
 refine hK _ _ (bI rM) ?_
 clear hK K
 repeat (first|(refine aP (by rfl) ?_)|(refine aN (by rfl) (by rfl) (fun K hK=>?_);go_big_quiet_op;refine hK _ ?_;clear hK K))
 refine bW ?_
 have jC:U.heap[b]?=some (.cells (kJ re s n e p) 91):=(rM.block b hl nb).trans h4.box
 obtain⟨lu,vO,IM,IP⟩:=ai jC
 have hc91:=lu 1
 have vP:=vO 1
 go_wp2_with fail
 refine(zg b s U hc91 vP hs0 hs1).mono ?_
 rintro x w' ⟨rfl,rfl⟩
 dsimp only
 go_wp2_with fail
 go_ret
 have hnb:n≠b:=fun e'=>gu h4.box h4.nm e'.symm
 have heb:e≠b:=fun e'=>gu h4.box h4.em e'.symm
 refine⟨rfl,?_,⟨?_,?_,?_,?_,h.ne⟩⟩
 ·have iE:=ag (ag hB hb2) hb4
  refine⟨fA.os.trans iE.os,fA.tape.trans iE.tape,fA.output.trans iE.output,?_,fun k hk hn'=>?_⟩
  ·show w.heap.size≤(U.setCell ⟨b,1,none⟩ (.int .i64 (s+1))).heap.size
   have:=iE.size
   have:=fA.size
   simp only[World.setCell,Array.size_modify]
   exact Nat.le_trans ‹w.heap.size≤V.heap.size› ‹_›
  ·rw[Below.heap_setCell _ _ _ _ (show k≠b from fun e'=>hn' (.inl e')),rM.block k (Nat.lt_of_lt_of_le hk iE.size) (aT (fun e'=>hn' (.inr (.inr (.inr e'))))),iE.block k hk]
 ·rw[cZ _ jC,zf]
 ·exact h4.nm.at ((Below.heap_setCell _ _ _ _ hnb).trans (rM.block n h4.nm.lt (aT h.ne.2.1)))
 ·exact h4.em.at ((Below.heap_setCell _ _ _ _ heb).trans (rM.block e h4.em.lt (aT h.ne.2.2)))
 ·exact rJ.at (Below.heap_setCell _ _ _ _ (Ne.symm hbp))
end Go.Proofs.YtaghcadlgbnbdaaGreatDoor
