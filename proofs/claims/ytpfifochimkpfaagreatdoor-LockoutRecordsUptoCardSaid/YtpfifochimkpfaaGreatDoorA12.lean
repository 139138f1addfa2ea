/- A part of the proof. -/
import Derived.Test.YtpfifochimkpfaaGreatDoorA02
import Derived.Test.YtpfifochimkpfaaGreatDoorA11
import Derived.Test.YtpfifochimkpfaaGreatDoorA08
set_option maxRecDepth 100000
set_option maxHeartbeats 4000000
namespace Go.WW
open Go.RowKit
section
variable {P:Program} {ops:Array Oper} {S:World→Prop} {st:Oper→Bool} {Q:Act→World→Prop}
structure Kv(st:Oper→Bool)(ops:Array Oper)(m:Array (List Nat))(x c:Nat):Prop where
 jy:Region.noSelect ops=true
 back:∀j oj,ops[j]?=some oj→∀e∈oj.after,Region.binds .any e=true→e.on<j
 pred:∀j oj,ops[j]?=some oj→∀i∈m.getD j [],∃e∈oj.after,Region.binds .any e=true∧(e.on=i∨i∈m.getD e.on [])
 pair:∀j oj,ops[j]?=some oj→∀i,i<j→∀oi,ops[i]?=some oi→(∃e∈oj.after,Region.binds .any e=true∧e.on=i)∨(oi.apart ops oj=true∧(st oi=true∨st oj=true∨i∈m.getD j []∨(i=c∧j=x)))
 past:∀i oi ox,ops[i]?=some oi→ops[x]?=some ox→c<i→i<x→ox.apart ops oi=true∧st oi=true
 look:∀i oi,ops[i]?=some oi→i≠x→i≠c→st oi=true∨c∈m.getD i []
 lt:c<x
theorem Tt{m:Array (List Nat)}{x c:Nat}(hok:Kv st ops m x c){listed:Array Bool}
  (hdown:∀k o,ops[k]?=some o→listed.getD k false=true→∀e∈o.after,Region.binds .any e=true→listed.getD e.on false=true) :
  ∀(j:Nat) (oj:Oper),ops[j]?=some oj→(∀e∈oj.after,Region.binds .any e=true→listed.getD e.on false=true)→∀i∈m.getD j [],listed.getD i false=true:=by
 intro j
 induction j using Nat.strongRecOn with
 |_ j ih=>
  intro oj hj hall i hi
  obtain⟨e,he,hb,hor⟩:=hok.pred j oj hj i hi
  rcases hor with rfl|hor
  ·exact hall e he hb
  ·have hlt:=hok.back j oj hj e he hb
   have hjs:j<ops.size:=(Array.getElem?_eq_some_iff.1 hj).1
   have hoe:ops[e.on]?=some (ops[e.on]'(by omega)):=by simp
   exact ih e.on hlt _ hoe (hdown _ _ hoe (hall e he hb)) i hor
def mv(x c:Nat)(L:List Nat):List Nat:=L.filter (fun k=>decide (k<c))++x::L.filter (fun k=>decide (c≤k)&&decide (k≠x))
theorem Kw(c:Nat):∀(L:List Nat),L.Pairwise (· < ·)→L.filter (fun k=>decide (k<c))++L.filter (fun k=>decide (c≤k))=L
 | [],_=>rfl
 |k::L,h=>by
  have hp:=List.pairwise_cons.1 h
  by_cases hk:k<c
  ·have ih:=Kw c L hp.2
   simp[hk,show ¬c≤k by omega,ih]
  ·have h1:L.filter (fun k=>decide (k<c))=[]:=by rw[List.filter_eq_nil_iff];intro y hy;have:=hp.1 y hy;simp;omega
   have h2:L.filter (fun k=>decide (c≤k))=L:=by rw[List.filter_eq_self];intro y hy;have:=hp.1 y hy;simp;omega
   simp[hk,show c≤k by omega,h1,h2]
theorem ae7{m:Array (List Nat)}{x c:Nat}(hok:Kv st ops m x c){Q':Exit→Act→World→Prop}(hQ:∀a w,Q a w→Q' .normal a w) :
  ∀(n:Nat) (L:List Nat) (listed:Array Bool) (a:Act) (w:World),L.length=n→L.Pairwise (· < ·)→listed.size=ops.size→(∀j,j∈L↔j<ops.size∧listed.getD j true=false)→
   (∀k o,ops[k]?=some o→listed.getD k false=true→∀e∈o.after,Region.binds .any e=true→listed.getD e.on false=true)→
   S w→aG P ops st S Q (L.filterMap (ops[·]?)) a w→(x∈L→c∈L→aG P ops st S Q ((mv x c L).filterMap (ops[·]?)) a w)→wpAny P .any ops Q' n listed a w:=by
 intro n
 induction n with
 |zero=>
  intro L listed a w hn _ hsz hL _ _ h _
  have:L=[]:=List.eq_nil_of_length_eq_zero hn
  subst this
  refine⟨?_,hQ _ _ h⟩
  cases hr:Region.ready .any ops listed with
  |nil=>rfl
  |cons i r=>
   have hi:i∈Region.ready .any ops listed:=by rw[hr];simp
   obtain⟨h0,o,ho,_⟩:=mem_ready.1 hi
   have:=(hL i).2 ⟨(Array.getElem?_eq_some_iff.1 ho).1,h0⟩
   cases this
 |succ n ih=>
  intro L listed a w hn hsort hsz hL hdown hS h hX
  refine⟨fun hr=>?_,fun i hi=>?_⟩
  ·exfalso
   cases L with
   |nil=>simp at hn
   |cons j L=>
    obtain⟨hj,hjl⟩:=(hL j).1 (by simp)
    have hoj:ops[j]?=some ops[j]:=by simp[hj]
    have:j∈Region.ready .any ops listed:=by
     refine mem_ready.2 ⟨hjl,_,hoj,fun e he hb=>?_⟩
     have hlt:=hok.back j _ hoj e he hb
     have hnot:e.on∉j::L:=by
      intro hmem
      rcases List.mem_cons.1 hmem with h1|h1
      ·omega
      ·have:=(List.pairwise_cons.1 hsort).1 _ h1;omega
     have h2:listed.getD e.on true≠false:=fun hf=>hnot ((hL e.on).2 ⟨by omega,hf⟩)
     have hes:e.on<listed.size:=by omega
     simp[hes]at h2 ⊢;exact h2
    rw[hr]at this;cases this
  ·obtain⟨h0,o,ho,hall⟩:=mem_ready.1 hi
   have his:i<ops.size:=(Array.getElem?_eq_some_iff.1 ho).1
   have hiL:i∈L:=(hL i).2 ⟨his,h0⟩
   have hnl:∀k∈L,¬listed.getD k false=true:=fun k hk hf=>by
    have hkl:=((hL k).1 hk).2
    rw[Ak hf]at hkl;cases hkl
   obtain⟨L1,L2,rfl⟩:=List.append_of_mem hiL
   have dW:=List.pairwise_append.1 hsort
   have hlt1:∀y∈L1,y<i:=fun y hy=>dW.2.2 y hy i (by simp)
   have hgt2:∀y∈L2,i<y:=fun y hy=>(List.pairwise_cons.1 dW.2.1).1 y hy
   have qX:(L1++L2).Pairwise (· < ·):=List.pairwise_append.2 ⟨dW.1,(List.pairwise_cons.1 dW.2.1).2,fun y hy z hz=>dW.2.2 y hy z (by simp[hz])⟩
   have hrest:∀a' w',S w'→aG P ops st S Q ((L1++L2).filterMap (ops[·]?)) a' w'→(x∈L1++L2→c∈L1++L2→aG P ops st S Q ((mv x c (L1++L2)).filterMap (ops[·]?)) a' w')→wpAny P .any ops Q' n (listed.setIfInBounds i true) a' w':=by
    intro a' w' hS' hh hh2
    refine ih (L1++L2) (listed.setIfInBounds i true) a' w' ?_ qX (by simpa using hsz) ?_ ?_ hS' hh hh2
    ·simp at hn ⊢;omega
    ·intro j
     by_cases hji:j=i
     ·subst hji
      constructor
      ·intro hm
       exfalso
       rcases List.mem_append.1 hm with h1|h1
       ·have:=hlt1 _ h1;omega
       ·have:=hgt2 _ h1;omega
      ·rintro⟨_,hf⟩
       have:j<listed.size:=by omega
       simp[this]at hf
     ·rw[getD_set_ne true (Ne.symm hji),←hL j]
      simp[hji]
    ·intro k ok hk hkl e he hb
     by_cases hki:k=i
     ·subst hki
      rw[ho]at hk;cases hk
      exact getD_set_true (hall e he hb)
     ·rw[getD_set_ne false (Ne.symm hki)]at hkl
      exact getD_set_true (hdown k ok hk hkl e he hb)
   have pass:∀k ox,ops[k]?=some ox→k∈L1++i::L2→k<i→¬(k=c∧i=x)→(∀cs b,ox.op≠.select cs b)∧ox.apart ops o=true∧(st ox=true∨st o=true):=by
    intro k ox hox hk hki hne
    refine⟨(Region.noSelect_spec hok.jy k ox · · hox),?_⟩
    rcases hok.pair i o ho k hki ox hox with⟨e,he,hb,rfl⟩|⟨hap,hor⟩
    ·exact absurd (hall e he hb) (hnl _ hk)
    ·refine⟨hap,?_⟩
     rcases hor with h1|h1|h1|h1
     ·exact .inl h1
     ·exact .inr h1
     ·exact absurd (Tt hok hdown i o ho hall k h1) (hnl _ hk)
     ·exact absurd h1 hne
   have hsel:=(Region.noSelect_spec hok.jy i o · · ho)
   have single:∀(R:List Oper) (K:Act→World→Prop),aG P ops st S Q (o::R) a w→(∀a' w',S w'→aG P ops st S Q R a' w'→K a' w')→wpOp P ops Q' i K a w:=by
    intro R K dh hrest
    unfold wpOp
    simp only[ho]
    rw[bF]at dh
    split
    ·rename_i hw
     rw[if_pos hw]at dh
     refine .inl ?_
     by_cases hs:st o=true
     ·rw[if_pos hs]at dh
      obtain⟨v,hv,hh⟩:=dh
      unfold Oper.wp
      rw[hv w hS]
      exact hrest _ _ hS hh
     ·rw[if_neg hs]at dh
      exact wQ (Oper.wp_mono (fun a' w' hh=>hrest a' w' hh.1 hh.2) dh)
    ·rename_i hw
     rw[if_neg hw]at dh
     exact hrest _ _ hS dh
   have hnot:∀y∈L1++L2,y≠i:=fun y hy e=>by
    subst e
    rcases List.mem_append.1 hy with h1|h1
    ·have:=hlt1 _ h1;omega
    ·have:=hgt2 _ h1;omega
   have AU:(∀k∈L1,¬(k=c∧i=x))→aG P ops st S Q (o::(L1++L2).filterMap (ops[·]?)) a w:=fun hk=>by
    rw[List.filterMap_append,List.filterMap_cons_some ho]at h
    rw[List.filterMap_append]
    exact jE hsel _ (fun y hy=>by
     obtain⟨k,dZ,hox⟩:=List.mem_filterMap.1 hy
     exact pass k y hox (by simp[dZ]) (hlt1 k dZ) (hk k dZ)) a w hS h
   by_cases hb:x∈L1++i::L2∧c∈L1++i::L2
   ·obtain⟨hx,hc⟩:=hb
    have hcx:=hok.lt
    have hX':=hX hx hc
    by_cases hix:i=x
    ·subst hix
     have e1:(L1++i::L2).filter (fun k=>decide (k<c))=(L1++L2).filter (fun k=>decide (k<c)):=by
      simp[List.filter_append,show ¬i<c by omega]
     have e2:(L1++i::L2).filter (fun k=>decide (c≤k)&&decide (k≠i))=(L1++L2).filter (fun k=>decide (c≤k)):=by
      have:(L1++i::L2).filter (fun k=>decide (c≤k)&&decide (k≠i))=(L1++L2).filter (fun k=>decide (c≤k)&&decide (k≠i)):=by simp[List.filter_append]
      rw[this]
      apply List.filter_congr
      intro y hy
      simp[hnot y hy]
     have e3:=Kw c _ qX
     rw[mv,e1,e2,List.filterMap_append,List.filterMap_cons_some ho]at hX'
     have hf:=jE hsel _ (fun y hy=>by
      obtain⟨k,dZ,hox⟩:=List.mem_filterMap.1 hy
      have hk:=List.mem_filter.1 dZ
      have hkc:k<c:=by simpa using hk.2
      have mP:k∈L1++i::L2:=by
       rcases List.mem_append.1 hk.1 with h1|h1
       ·simp[h1]
       ·simp[h1]
      exact pass k y hox mP (by omega) (fun h'=>by omega)) a w hS hX'
     rw[←List.filterMap_append,e3]at hf
     exact single _ _ hf (fun a' w' hS' hh=>hrest a' w' hS' hh (fun h' _=>absurd rfl (hnot _ h')))
    ·by_cases hic:i=c
     ·subst hic
      exact single _ _ (AU (fun k hk h'=>hix h'.2)) (fun a' w' hS' hh=>hrest a' w' hS' hh (fun _ h'=>absurd rfl (hnot _ h')))
     ·have hst:st o=true:=by
       rcases hok.look i o ho hix hic with h1|h1
       ·exact h1
       ·exact absurd (Tt hok hdown i o ho hall c h1) (hnl _ hc)
      have hf1:=AU (fun k hk h'=>hix h'.2)
      have hox:∃ox,ops[x]?=some ox:=by
       have:=((hL x).1 hx).1
       exact⟨ops[x],by simp[this]⟩
      obtain⟨ox,hox⟩:=hox
      have hf2:aG P ops st S Q (o::(mv x c (L1++L2)).filterMap (ops[·]?)) a w:=by
       by_cases hlt:i<c
       ·have e1:(L1++i::L2).filter (fun k=>decide (k<c))=L1.filter (fun k=>decide (k<c))++i::L2.filter (fun k=>decide (k<c)):=by simp[List.filter_append,hlt]
        have e2:(L1++i::L2).filter (fun k=>decide (c≤k)&&decide (k≠x))=(L1++L2).filter (fun k=>decide (c≤k)&&decide (k≠x)):=by simp[List.filter_append,show ¬c≤i by omega]
        rw[mv,e1,e2,List.append_assoc,List.cons_append,List.filterMap_append,List.filterMap_cons_some ho]at hX'
        have hf:=jE hsel _ (fun y hy=>by
         obtain⟨k,dZ,hoy⟩:=List.mem_filterMap.1 hy
         have hk:=List.mem_filter.1 dZ
         exact pass k y hoy (by simp[hk.1]) (hlt1 k hk.1) (fun h'=>hix h'.2)) a w hS hX'
        rw[←List.filterMap_append,←List.append_assoc,←List.filter_append]at hf
        exact hf
       ·have hgt:c<i:=by omega
        have e1:(L1++i::L2).filter (fun k=>decide (k<c))=(L1++L2).filter (fun k=>decide (k<c)):=by simp[List.filter_append,hlt]
        have e2:(L1++i::L2).filter (fun k=>decide (c≤k)&&decide (k≠x))=L1.filter (fun k=>decide (c≤k)&&decide (k≠x))++i::L2.filter (fun k=>decide (c≤k)&&decide (k≠x)):=by
         simp[List.filter_append,show c≤i by omega,hix]
        rw[mv,e1,e2,←List.cons_append,←List.append_assoc,List.filterMap_append,List.filterMap_cons_some ho]at hX'
        have hf:=jE hsel _ (fun y hy=>by
         obtain⟨k,dZ,hoy⟩:=List.mem_filterMap.1 hy
         rcases List.mem_append.1 dZ with h1|h1
         ·have hk:=List.mem_filter.1 h1
          have hkc:k<c:=by simpa using hk.2
          have mP:k∈L1++i::L2:=by
           rcases List.mem_append.1 hk.1 with h2|h2
           iterate 2
            ·simp[h2]
          exact pass k y hoy mP (by omega) (fun h'=>hix h'.2)
         ·rcases List.mem_cons.1 h1 with h1|h1
          ·subst h1
           by_cases hki:k<i
           ·exact pass k y hoy hx hki (fun h'=>hix h'.2)
           ·obtain⟨ha,hs⟩:=hok.past i o y ho hoy hgt (by omega)
            exact⟨(Region.noSelect_spec hok.jy k y · · hoy),ha,.inr hs⟩
          ·have hk:=List.mem_filter.1 h1
           exact pass k y hoy (by simp[hk.1]) (hlt1 k hk.1) (fun h'=>hix h'.2)) a w hS hX'
        rw[←List.filterMap_append,List.append_assoc,List.cons_append,←List.filter_append]at hf
        exact hf
      have CZ:x∈L1++L2:=by
       rcases List.mem_append.1 hx with h1|h1
       ·simp[h1]
       ·rcases List.mem_cons.1 h1 with h1|h1
        ·exact absurd h1.symm hix
        ·simp[h1]
      unfold wpOp
      simp only[ho]
      rw[bF]at hf1 hf2
      split
      ·rename_i hw
       rw[if_pos hw,if_pos hst]at hf1 hf2
       obtain⟨v,hv,hh⟩:=hf1
       obtain⟨v',hv',hh'⟩:=hf2
       have e:v'=v:=by
        have:=(hv' w hS).symm.trans (hv w hS)
        simpa using this
       subst e
       refine .inl ?_
       unfold Oper.wp
       rw[hv w hS]
       exact hrest _ _ hS hh (fun _ _=>hh')
      ·rename_i hw
       rw[if_neg hw]at hf1 hf2
       exact hrest _ _ hS hf1 (fun _ _=>hf2)
   ·refine single _ _ (AU (fun k hk h'=>hb ⟨by rw[←h'.2];simp,by rw[←h'.1];simp[hk]⟩)) (fun a' w' hS' hh=>hrest a' w' hS' hh (fun h1 h2=>absurd ⟨?_,?_⟩ hb))
    ·rcases List.mem_append.1 h1 with h3|h3
     ·simp[h3]
     ·simp[h3]
    ·rcases List.mem_append.1 h2 with h3|h3
     ·simp[h3]
     ·simp[h3]
def C9(st:Oper→Bool)(ops:Array Oper)(x c:Nat):Bool:=
 let m:=lK st ops
 Region.noSelect ops&&decide (c<x)&&(List.range ops.size).all fun j=>match ops[j]? with
  |none=>true
  |some oj=>
   oj.after.toList.all (fun e=>!Region.binds .any e || decide (e.on<j))&&
   (m.getD j []).all (fun i=>oj.after.toList.any fun e=>Region.binds .any e&&(e.on == i || (m.getD e.on []).contains i))&&
   ((List.range j).all fun i=>match ops[i]? with
    |none=>true
    |some oi=>oj.after.toList.any (fun e=>Region.binds .any e&&e.on == i) || (oi.apart ops oj&&(st oi || st oj || (m.getD j []).contains i || (i == c&&j == x))))&&
   (j == x || j == c || st oj || (m.getD j []).contains c)&&
   (match ops[x]? with
    |none=>true
    |some ox=>!(decide (c<j)&&decide (j<x)) || (ox.apart ops oj&&st oj))
theorem ae8{x c:Nat}(h:C9 st ops x c=true):Kv st ops (lK st ops) x c:=by
 unfold C9 at h
 simp only[Bool.and_eq_true,List.all_eq_true,List.mem_range,decide_eq_true_eq]at h
 obtain⟨⟨hs,hlt⟩,h⟩:=h
 have lt:∀{j:Nat} {oj:Oper},ops[j]?=some oj→j<ops.size:=fun hj=>(Array.getElem?_eq_some_iff.1 hj).1
 refine⟨hs,fun j oj hj=>?_,fun j oj hj=>?_,fun j oj hj=>?_,fun j oj ox hj hox=>?_,fun j oj hj=>?_,hlt⟩
 all_goals
  have hh:=h j (lt hj)
  simp only[hj,Bool.and_eq_true,List.all_eq_true,List.mem_range]at hh
  obtain⟨⟨⟨⟨h1,h2⟩,h3⟩,h4⟩,h5⟩:=hh
 ·intro e he hb
  have:=h1 e (by simpa using he)
  simpa[hb]using this
 ·intro i hi
  have:=h2 i hi
  simp only[List.any_eq_true,Bool.and_eq_true,Bool.or_eq_true,beq_iff_eq,List.contains_iff_mem]at this
  obtain⟨e,he,hb,hor⟩:=this
  exact⟨e,by simpa using he,hb,hor⟩
 ·intro i hi oi ho
  have:=h3 i hi
  simp only[ho,Bool.or_eq_true,List.any_eq_true,Bool.and_eq_true,beq_iff_eq,List.contains_iff_mem]at this
  rcases this with⟨e,he,hb,hor⟩|⟨ha,hor⟩
  ·exact .inl ⟨e,by simpa using he,hb,hor⟩
  ·exact .inr ⟨ha,by rcases hor with((h|h)|h)|h;exact .inl h;exact .inr (.inl h);exact .inr (.inr (.inl h));exact .inr (.inr (.inr h))⟩
 ·intro hci hix
  simp only[hox,Bool.or_eq_true,Bool.not_eq_true',Bool.and_eq_false_iff,decide_eq_false_iff_not,Bool.and_eq_true]at h5
  rcases h5 with(h5|h5)|h5
  ·exact absurd hci h5
  ·exact absurd hix h5
  ·exact h5
 ·intro yJ hjc
  simp only[Bool.or_eq_true,beq_iff_eq,List.contains_iff_mem]at h4
  rcases h4 with((h4|h4)|h4)|h4
  ·exact absurd h4 yJ
  ·exact absurd h4 hjc
  ·exact .inl h4
  ·exact .inr h4
def pick(l:List Oper):List Nat→List Oper
 | []=>[]
 |i::is=>match l[i]? with|some o=>o::pick l is|none=>pick l is
theorem xm(l:List Oper):∀is,pick l is=is.filterMap (l.toArray[·]?)
 | []=>rfl
 |i::is=>by
  rw[pick,xm l is]
  cases h:l[i]? with
  |none=>rw[List.filterMap_cons_none (by simpa using h)]
  |some o=>rw[List.filterMap_cons_some (by simpa using h)]
theorem ae9(l:List Oper):(List.range l.toArray.size).filterMap (l.toArray[·]?)=l:=by
 have:∀n,(List.range n).filterMap (fun i=>l.toArray[i]?)=l.take n:=by
  intro n
  induction n with
  |zero=>simp
  |succ n ih=>
   rw[List.range_succ,List.filterMap_append,ih]
   by_cases hn:n<l.length
   ·rw[List.take_succ_eq_append_getElem hn];simp[hn]
   ·simp[hn,List.take_of_length_le (show l.length≤n by omega),List.take_of_length_le (show l.length≤n+1 by omega)]
 rw[this];simp
theorem Tu{id:Nat}{Q':Exit→Act→World→Prop}{a:Act}{w:World}{l:List Oper}(S:World→Prop)(st:Oper→Bool)(x c:Nat)(idx:List Nat)(hm:P.follows .mixedOrders=true)(hB:C9 st l.toArray x c=true)(hi:mv x c (List.range l.toArray.size)=idx)
  (hS:S w.drew) (h:aG P l.toArray st S (fun a' w'=>Q' .normal a' w') l a w.drew) (h2:aG P l.toArray st S (fun a' w'=>Q' .normal a' w') (pick l idx) a w.drew):(Code.region id l.toArray true).wp P Q' a w:=by
 refine wp_region_any hm ?_
 exact ae7 (P:=P) (S:=S) (Q:=fun a' w'=>Q' .normal a' w') (ae8 hB) (Q':=Q') (fun _ _ h=>h) l.toArray.size (List.range l.toArray.size) (Array.replicate l.toArray.size false) a w.drew
  (by simp) List.pairwise_lt_range (by simp) (by intro j;simp;intro h;simp[h]) (by intro k o hk hkl;exfalso;rw[Array.getD_eq_getD_getElem?,Array.getElem?_replicate]at hkl;split at hkl<;>simp at hkl) hS (by rw[ae9];exact h) (fun _ _=>by rw[hi,←xm];exact h2)
end
theorem yK{P:Program}{id:Nat}{Q':Exit→Act→World→Prop}{a:Act}{W w:World}{l:List Oper}(x c:Nat)(idx:List Nat)(hW:Below W.heap.size W w)(hm:P.follows .mixedOrders=true)(hB:C9 looks l.toArray x c=true)(hi:mv x c (List.range l.toArray.size)=idx)
  (h:∀w1,Below W.heap.size W w1→aG P l.toArray looks (since W) (fun a' w'=>Q' .normal a' w') l a w1)
  (h2:∀w1,Below W.heap.size W w1→aG P l.toArray looks (since W) (fun a' w'=>Q' .normal a' w') (pick l idx) a w1):(Code.region id l.toArray true).wp P Q' a w:=
 Tu (since W) looks x c idx hm hB hi ⟨⟨w.drew,hW.drew⟩,rfl⟩ (h _ hW.drew) (h2 _ hW.drew)
end Go.WW
namespace Go.WW
open Go.RowKit
theorem aI{X w3:World}{k:Nat}{o:Obj}(hb3:Below X.heap.size X w3)(hX:X.heap[k]?=some o):w3.heap[k]?=some o:=(hb3.block k (Array.getElem?_eq_some_iff.1 hX).1).trans hX
theorem Tv(r:aK)(d:Entry)(p:ah)(s:Bool)(now:Int):gy ((((aY r d p).setIfInBounds 11 (.int .i64 (jV d p s now))).setIfInBounds 12 (.int .i64 (mJ d s now))).setIfInBounds 13 (.int .i64 (mM d s now))) 0 17=some (ae r (gK d p s now)):=by kernel_rfl
end Go.WW
namespace Go.Proofs.YtpfifochimkpfaaGreatDoor
open Go.RowKit Go.WW
theorem FZ(r:aK)(d:Entry)(p:ah)(s:Bool)(now:Int)(w:World)(he:aS w r d)(hs:p.name.size≤lim)(h1:fK d p now=true)(h2:fZ d p now=false) :
  Calls Tryz.prog 20 #[.agg (ae r d),.agg (ak p),.bool s,.int .i64 now] w (vH w (gK d p s now) 0):=by
 have hB:Below w.heap.size w (((w.alloc (.cells (ae r d) 44)).alloc (.cells (ak p) 52)).alloc (.cells (ae bg aV) 44)):=(((Below.refl _ _).alloc (Nat.le_refl _) _).alloc (by simp) _).alloc (by simp;omega) _
 have hz:aX (((w.alloc (.cells (ae r d) 44)).alloc (.cells (ak p) 52)).alloc (.cells (ae bg aV) 44)) (w.heap.size+1+1) 0 17=true:=by simp[go_sem]
 have hws:(((w.alloc (.cells (ae r d) 44)).alloc (.cells (ak p) 52)).alloc (.cells (ae bg aV) 44)).heap.size=w.heap.size+1+1+1:=by simp
 have vI:=Lib.hid hws
 clear hws
 go_enter Tryz.func20,Tryz.ntmps20
 go_wp2_with fail
 rw[←mO]
 refine(CS _ _ _ _ _ (he.later hB) hs).mono ?_
 rintro e w2 ⟨rfl,hb2⟩
 have hB2:=ag hB hb2
 obtain⟨hc,hf,hr⟩:=aQ hb2
 have hpp:=fD hb2
 have hsz:w.heap.size+1+1<w2.heap.size:=by have:=hb2.size;simp at this;omega
 have hsz0:w.heap.size<w2.heap.size:=by omega
 have hsz1:w.heap.size+1<w2.heap.size:=by omega
 rw[h1]
 go_wp2_with fail
 obtain⟨hsm,-,-,-⟩:=wZ h1
 refine yK 4 1 [0,4,1,2,3,5] hb2 (by kernel_rfl) (by kernel_rfl) (by rfl) ?_ ?_
 ·intro w4 hb4
  clear hc hf hr hpp hsz hsz0 hsz1
  have hB4:=ag hB hb4
  obtain⟨hc,hf,hr⟩:=aQ hb4
  have hsz:w.heap.size+1+1<w4.heap.size:=by have:=hb4.size;have:=vI.out;omega
  have hsz0:w.heap.size<w4.heap.size:=by omega
  have hsz1:w.heap.size+1<w4.heap.size:=by omega
  repeat (first|(refine ai (by rfl) ?_)|(refine au (by rfl) (by rfl) (fun K hK=>?_);go_big_quiet_op;refine hK _ ?_;clear hK K))
  refine aB (by rfl) (by rfl) (fun K hK=>?_)
  go_wp2_with fail
  refine(yI r d _ (he.later hB4)).mono ?_
  rintro e w5 ⟨r',rfl,hb5,hd5⟩
  have bJ:=ag hb4 hb5
  go_wp2_with fail
  refine hK _ _ (aj bJ) ?_
  clear hK K
  clear hc hf hr
  obtain⟨hc,hf,hr⟩:=aQ bJ
  repeat (first|(refine ai (by rfl) ?_)|(refine au (by rfl) (by rfl) (fun K hK=>?_);go_big_quiet_op;refine hK _ ?_;clear hK K))
  refine aB (by rfl) (by rfl) (fun K hK=>?_)
  go_wp2_with fail
  refine hK _ _ (aj (ay bJ _)) ?_
  clear hK K
  repeat (first|(refine ai (by rfl) ?_)|(refine au (by rfl) (by rfl) (fun K hK=>?_);go_big_quiet_op;refine hK _ ?_;clear hK K))
  refine aB (by rfl) (by rfl) (fun K hK=>?_)
  go_wp2_with fail
  refine hK _ _ (aj (ay bJ (.cells (aY r' d p) 86))) ?_
  clear hK K
  repeat (first|(refine ai (by rfl) ?_)|(refine au (by rfl) (by rfl) (fun K hK=>?_);go_big_quiet_op;refine hK _ ?_;clear hK K))
  refine bz ?_
  have nJ:(w5.alloc (.cells (aY r' d p) 86)).heap[w5.heap.size]?=some (.cells (aY r' d p) 86):=World.alloc_heap_new _ _
  have kU:=ay bJ (.cells (aY r' d p) 86)
  have qY:=ag hB kU
  have hs5:=hb5.size
  have hd:bu (w5.alloc (.cells (aY r' d p) 86)) (fun k=>w4.heap.size≤k∧k<w5.heap.size) (fun x=>aS x r' d):=hd5.to (fun k hk=>Below.heap_alloc _ _ _ hk.2) (fun k hk=>hk)
  have hAo:¬(w4.heap.size≤w5.heap.size∧w5.heap.size<w5.heap.size):=by omega
  have Ky:w.heap.size+1+1<w5.heap.size:=by omega
  have qZ:∀k,(w4.heap.size≤k∧k<w5.heap.size)→k<(w5.alloc (.cells (aY r' d p) 86)).heap.size∧w.heap.size+1+1<k:=fun k hk=>⟨by simp;omega,by omega⟩
  have yL:=Lib.hid qZ
  have Dc:=Lib.hid hAo
  clear hc hf hr hsz hsz0 hsz1 qZ hAo hd5 hs5
  generalize w5.alloc (.cells (aY r' d p) 86)=V at *
  generalize w5.heap.size=A at *
  obtain⟨hc,hf,hr,hlt⟩:=ax nJ
  go_wp2_with fail
  refine(yA _ _ _ _ _ hsm).mono ?_
  rintro e V2 ⟨rfl,hbv⟩
  rw[h2]
  have Df:=aI hbv nJ
  clear hc hf hr hlt
  obtain⟨hc,hf,hr,hlt⟩:=ax Df
  go_wp2_with fail
  refine(Ku _ _ _ _ _ _ hsm).mono ?_
  rintro e V3 ⟨rfl,Dh⟩
  have Di:=aI Dh Df
  have hvv:=ag hbv Dh
  have Kz:=ag qY hvv
  have Dj:=ag kU hvv
  have hpp:=fD Dj
  have hsz:w.heap.size+1+1<V3.heap.size:=by have:=Dj.size;have:=vI.out;omega
  have hy:=dH (o:=13) (.int .i64 (mM d s now)) (dH (o:=12) (.int .i64 (mJ d s now)) (dH (o:=11) (.int .i64 (jV d p s now)) Di))
  have hrow0:row? (((V3.setCell ⟨A,11,none⟩ (.int .i64 (jV d p s now))).setCell ⟨A,12,none⟩ (.int .i64 (mJ d s now))).setCell ⟨A,13,none⟩ (.int .i64 (mM d s now))) A 0 17=some (ae r' (gK d p s now)):=(dI hy).trans (Tv r' d p s now)
  have o9:w.heap.size+1+1≠A:=by omega
  have hcp:aX (((V3.setCell ⟨A,11,none⟩ (.int .i64 (jV d p s now))).setCell ⟨A,12,none⟩ (.int .i64 (mJ d s now))).setCell ⟨A,13,none⟩ (.int .i64 (mM d s now))) (w.heap.size+1+1) 0 17=true:=by
   rw[jJ o9,jJ o9,jJ o9]
   exact(hpp (w.heap.size+1+1) 0 17 (by simp)).trans hz
  clear hc hf hr hlt hy
  obtain⟨hc,hf,hr,hlt⟩:=ax Di
  clear hr
  go_wp2_with fail
  have hrow:=gJ (oP r' (gK d p s now)) hcp
  refine bodyPost_ret (kT (by rfl) Tryz.underlying44 rfl (by kernel_rfl) rfl hrow) rfl ⟨r',rfl,Go.WW.Below.putRow (((Kz.setCell (by simp;omega) _).setCell (by simp;omega) _).setCell (by simp;omega) _) (by omega),fun x hx=>?_⟩
  have h:=hd x (fun k hk=>by
   have h9:=(yL.out k hk).1
   have h8:=(yL.out k hk).2
   rw[hx k ⟨by omega,by rw[gV];simp only[World.setCell,Array.size_modify];have:=hvv.size;omega⟩]
   show(putRow (((V3.setCell ⟨A,11,none⟩ (.int .i64 (jV d p s now))).setCell ⟨A,12,none⟩ (.int .i64 (mJ d s now))).setCell ⟨A,13,none⟩ (.int .i64 (mM d s now))) (w.heap.size+1+1) 0 (ae r' (gK d p s now))).heap[k]?=V.heap[k]?
   have yM:k≠A:=fun e=>Dc.out (e▸hk)
   rw[gU (by omega),Below.heap_setCell _ _ _ _ yM,Below.heap_setCell _ _ _ _ yM,Below.heap_setCell _ _ _ _ yM]
   exact hvv.block k (by omega))
  exact⟨h.name,h.aliases,h.keys,h.targets,h.bW,h.history,h.aP,h.attrs⟩
 ·intro w4 hb4
  change aG _ _ _ _ _ [_,_,_,_,_,_] _ _
  clear hc hf hr hpp hsz hsz0 hsz1
  have hB4:=ag hB hb4
  obtain⟨hc,hf,hr⟩:=aQ hb4
  have hsz:w.heap.size+1+1<w4.heap.size:=by have:=hb4.size;have:=vI.out;omega
  have hsz0:w.heap.size<w4.heap.size:=by omega
  have hsz1:w.heap.size+1<w4.heap.size:=by omega
  repeat (first|(refine ai (by rfl) ?_)|(refine au (by rfl) (by rfl) (fun K hK=>?_);go_big_quiet_op;refine hK _ ?_;clear hK K))
  refine aB (by rfl) (by rfl) (fun K hK=>?_)
  go_wp2_with fail
  refine hK _ _ (aj (ay hb4 _)) ?_
  clear hK K
  repeat (first|(refine ai (by rfl) ?_)|(refine au (by rfl) (by rfl) (fun K hK=>?_);go_big_quiet_op;refine hK _ ?_;clear hK K))
  refine aB (by rfl) (by rfl) (fun K hK=>?_)
  go_wp2_with fail
  have iV:=ay hb4 (.cells #[.slice none 0 0,.string ⟨#[]⟩,.slice none 0 0,.int .u32 0,.int .i64 0,.slice none 0 0,.string ⟨#[]⟩,.int .i64 0,.int .i64 0,.int .i64 0,.int .i64 0,.int .i64 0,.int .i64 0,.int .i64 0,.slice none 0 0,.slice none 0 0,.slice none 0 0,.string ⟨#[]⟩,.int .i64 0,.int .i64 0,.int .i64 0,.int .i64 0,.int .i64 0,.int .i64 0,.int .i64 0,.int .i64 0,.int .i64 0] 86)
  have KA:=ag hB iV
  refine(yI r d _ (he.later KA)).mono ?_
  rintro e w5 ⟨r',rfl,hb5,hd5⟩
  have bJ:=ag iV hb5
  have hk5:w5.heap[w4.heap.size]?=some (.cells #[.slice none 0 0,.string ⟨#[]⟩,.slice none 0 0,.int .u32 0,.int .i64 0,.slice none 0 0,.string ⟨#[]⟩,.int .i64 0,.int .i64 0,.int .i64 0,.int .i64 0,.int .i64 0,.int .i64 0,.int .i64 0,.slice none 0 0,.slice none 0 0,.slice none 0 0,.string ⟨#[]⟩,.int .i64 0,.int .i64 0,.int .i64 0,.int .i64 0,.int .i64 0,.int .i64 0,.int .i64 0,.int .i64 0,.int .i64 0] 86):=aI hb5 (World.alloc_heap_new _ _)
  have nM:aX w5 w4.heap.size 0 27=true:=iC hk5 (by simp)
  go_wp2_with fail
  refine hK _ _ (aj bJ) ?_
  clear hK K
  clear hc hf hr
  obtain⟨hc,hf,hr⟩:=aQ bJ
  repeat (first|(refine ai (by rfl) ?_)|(refine au (by rfl) (by rfl) (fun K hK=>?_);go_big_quiet_op;refine hK _ ?_;clear hK K))
  refine aB (by rfl) (by rfl) (fun K hK=>?_)
  go_wp2_with fail
  have yN:Below (((w.alloc (.cells (ae r d) 44)).alloc (.cells (ak p) 52)).alloc (.cells (ae bg aV) 44)).heap.size (((w.alloc (.cells (ae r d) 44)).alloc (.cells (ak p) 52)).alloc (.cells (ae bg aV) 44)) (putRow w5 w4.heap.size 0 (aY r' d p)):=Go.WW.Below.putRow bJ hb4.size
  refine hK _ _ (aj yN) ?_
  clear hK K
  repeat (first|(refine ai (by rfl) ?_)|(refine au (by rfl) (by rfl) (fun K hK=>?_);go_big_quiet_op;refine hK _ ?_;clear hK K))
  refine bz ?_
  have nJ:(putRow w5 w4.heap.size 0 (aY r' d p)).heap[w4.heap.size]?=some (.cells (aY r' d p) 86):=(jk hk5 (by simp[go_sem])).trans (by rw[kR (by simp[go_sem])])
  have kU:=yN
  have qY:=ag hB kU
  have hs5:=hb5.size
  simp at hs5
  have hd:bu (putRow w5 w4.heap.size 0 (aY r' d p)) (fun k=>w4.heap.size+1≤k∧k<w5.heap.size) (fun x=>aS x r' d):=hd5.to (fun k hk=>gU (by have h1:=hk.1;simp at h1;omega)) (fun k hk=>⟨by have h1:=hk.1;simpa using h1,hk.2⟩)
  have hAo:¬(w4.heap.size+1≤w4.heap.size∧w4.heap.size<w5.heap.size):=by omega
  have Ky:w.heap.size+1+1<w4.heap.size:=by omega
  have qZ:∀k,(w4.heap.size+1≤k∧k<w5.heap.size)→k<(putRow w5 w4.heap.size 0 (aY r' d p)).heap.size∧w.heap.size+1+1<k:=fun k hk=>⟨by rw[gV];omega,by omega⟩
  have yL:=Lib.hid qZ
  have Dc:=Lib.hid hAo
  clear hc hf hr hsz hsz0 hsz1 qZ hAo hd5 hs5 nM hk5 yN
  generalize putRow w5 w4.heap.size 0 (aY r' d p)=V at *
  generalize w4.heap.size=A at *
  obtain⟨hc,hf,hr,hlt⟩:=ax nJ
  go_wp2_with fail
  refine(yA _ _ _ _ _ hsm).mono ?_
  rintro e V2 ⟨rfl,hbv⟩
  rw[h2]
  have Df:=aI hbv nJ
  clear hc hf hr hlt
  obtain⟨hc,hf,hr,hlt⟩:=ax Df
  go_wp2_with fail
  refine(Ku _ _ _ _ _ _ hsm).mono ?_
  rintro e V3 ⟨rfl,Dh⟩
  have Di:=aI Dh Df
  have hvv:=ag hbv Dh
  have Kz:=ag qY hvv
  have Dj:=ag kU hvv
  have hpp:=fD Dj
  have hsz:w.heap.size+1+1<V3.heap.size:=by have:=Dj.size;have:=vI.out;omega
  have hy:=dH (o:=13) (.int .i64 (mM d s now)) (dH (o:=12) (.int .i64 (mJ d s now)) (dH (o:=11) (.int .i64 (jV d p s now)) Di))
  have hrow0:row? (((V3.setCell ⟨A,11,none⟩ (.int .i64 (jV d p s now))).setCell ⟨A,12,none⟩ (.int .i64 (mJ d s now))).setCell ⟨A,13,none⟩ (.int .i64 (mM d s now))) A 0 17=some (ae r' (gK d p s now)):=(dI hy).trans (Tv r' d p s now)
  have o9:w.heap.size+1+1≠A:=by omega
  have hcp:aX (((V3.setCell ⟨A,11,none⟩ (.int .i64 (jV d p s now))).setCell ⟨A,12,none⟩ (.int .i64 (mJ d s now))).setCell ⟨A,13,none⟩ (.int .i64 (mM d s now))) (w.heap.size+1+1) 0 17=true:=by
   rw[jJ o9,jJ o9,jJ o9]
   exact(hpp (w.heap.size+1+1) 0 17 (by simp)).trans hz
  clear hc hf hr hlt hy
  obtain⟨hc,hf,hr,hlt⟩:=ax Di
  clear hr
  go_wp2_with fail
  have hrow:=gJ (oP r' (gK d p s now)) hcp
  refine bodyPost_ret (kT (by rfl) Tryz.underlying44 rfl (by kernel_rfl) rfl hrow) rfl ⟨r',rfl,Go.WW.Below.putRow (((Kz.setCell (by simp;omega) _).setCell (by simp;omega) _).setCell (by simp;omega) _) (by omega),fun x hx=>?_⟩
  have h:=hd x (fun k hk=>by
   have h9:=(yL.out k hk).1
   have h8:=(yL.out k hk).2
   rw[hx k ⟨by omega,by rw[gV];simp only[World.setCell,Array.size_modify];have:=hvv.size;omega⟩]
   show(putRow (((V3.setCell ⟨A,11,none⟩ (.int .i64 (jV d p s now))).setCell ⟨A,12,none⟩ (.int .i64 (mJ d s now))).setCell ⟨A,13,none⟩ (.int .i64 (mM d s now))) (w.heap.size+1+1) 0 (ae r' (gK d p s now))).heap[k]?=V.heap[k]?
   have yM:k≠A:=fun e=>Dc.out (e▸hk)
   rw[gU (by omega),Below.heap_setCell _ _ _ _ yM,Below.heap_setCell _ _ _ _ yM,Below.heap_setCell _ _ _ _ yM]
   exact hvv.block k (by omega))
  exact⟨h.name,h.aliases,h.keys,h.targets,h.bW,h.history,h.aP,h.attrs⟩
theorem afa(r:aK)(d:Entry)(p:ah)(s:Bool)(now:Int)(w:World)(he:aS w r d)(hs:p.name.size≤lim)(h1:fK d p now=true)(h2:fZ d p now=true) :
  Calls Tryz.prog 20 #[.agg (ae r d),.agg (ak p),.bool s,.int .i64 now] w (vH w aV 290):=by
 have hB:Below w.heap.size w (((w.alloc (.cells (ae r d) 44)).alloc (.cells (ak p) 52)).alloc (.cells (ae bg aV) 44)):=(((Below.refl _ _).alloc (Nat.le_refl _) _).alloc (by simp) _).alloc (by simp;omega) _
 have hz:aX (((w.alloc (.cells (ae r d) 44)).alloc (.cells (ak p) 52)).alloc (.cells (ae bg aV) 44)) (w.heap.size+1+1) 0 17=true:=by simp[go_sem]
 have hws:(((w.alloc (.cells (ae r d) 44)).alloc (.cells (ak p) 52)).alloc (.cells (ae bg aV) 44)).heap.size=w.heap.size+1+1+1:=by simp
 have vI:=Lib.hid hws
 clear hws
 go_enter Tryz.func20,Tryz.ntmps20
 go_wp2_with fail
 rw[←mO]
 refine(CS _ _ _ _ _ (he.later hB) hs).mono ?_
 rintro e w2 ⟨rfl,hb2⟩
 have hB2:=ag hB hb2
 obtain⟨hc,hf,hr⟩:=aQ hb2
 have hpp:=fD hb2
 have hsz:w.heap.size+1+1<w2.heap.size:=by have:=hb2.size;simp at this;omega
 have hsz0:w.heap.size<w2.heap.size:=by omega
 have hsz1:w.heap.size+1<w2.heap.size:=by omega
 rw[h1]
 go_wp2_with fail
 obtain⟨hsm,-,-,-⟩:=wZ h1
 refine yK 4 1 [0,4,1,2,3,5] hb2 (by kernel_rfl) (by kernel_rfl) (by rfl) ?_ ?_
 ·intro w4 hb4
  clear hc hf hr hpp hsz hsz0 hsz1
  have hB4:=ag hB hb4
  obtain⟨hc,hf,hr⟩:=aQ hb4
  have hsz:w.heap.size+1+1<w4.heap.size:=by have:=hb4.size;have:=vI.out;omega
  have hsz0:w.heap.size<w4.heap.size:=by omega
  have hsz1:w.heap.size+1<w4.heap.size:=by omega
  repeat (first|(refine ai (by rfl) ?_)|(refine au (by rfl) (by rfl) (fun K hK=>?_);go_big_quiet_op;refine hK _ ?_;clear hK K))
  refine aB (by rfl) (by rfl) (fun K hK=>?_)
  go_wp2_with fail
  refine(yI r d _ (he.later hB4)).mono ?_
  rintro e w5 ⟨r',rfl,hb5,hd5⟩
  have bJ:=ag hb4 hb5
  go_wp2_with fail
  refine hK _ _ (aj bJ) ?_
  clear hK K
  clear hc hf hr
  obtain⟨hc,hf,hr⟩:=aQ bJ
  repeat (first|(refine ai (by rfl) ?_)|(refine au (by rfl) (by rfl) (fun K hK=>?_);go_big_quiet_op;refine hK _ ?_;clear hK K))
  refine aB (by rfl) (by rfl) (fun K hK=>?_)
  go_wp2_with fail
  refine hK _ _ (aj (ay bJ _)) ?_
  clear hK K
  repeat (first|(refine ai (by rfl) ?_)|(refine au (by rfl) (by rfl) (fun K hK=>?_);go_big_quiet_op;refine hK _ ?_;clear hK K))
  refine aB (by rfl) (by rfl) (fun K hK=>?_)
  go_wp2_with fail
  refine hK _ _ (aj (ay bJ (.cells (aY r' d p) 86))) ?_
  clear hK K
  repeat (first|(refine ai (by rfl) ?_)|(refine au (by rfl) (by rfl) (fun K hK=>?_);go_big_quiet_op;refine hK _ ?_;clear hK K))
  refine bz ?_
  have nJ:(w5.alloc (.cells (aY r' d p) 86)).heap[w5.heap.size]?=some (.cells (aY r' d p) 86):=World.alloc_heap_new _ _
  have kU:=ay bJ (.cells (aY r' d p) 86)
  have qY:=ag hB kU
  have hs5:=hb5.size
  have hd:bu (w5.alloc (.cells (aY r' d p) 86)) (fun k=>w4.heap.size≤k∧k<w5.heap.size) (fun x=>aS x r' d):=hd5.to (fun k hk=>Below.heap_alloc _ _ _ hk.2) (fun k hk=>hk)
  have hAo:¬(w4.heap.size≤w5.heap.size∧w5.heap.size<w5.heap.size):=by omega
  have Ky:w.heap.size+1+1<w5.heap.size:=by omega
  have qZ:∀k,(w4.heap.size≤k∧k<w5.heap.size)→k<(w5.alloc (.cells (aY r' d p) 86)).heap.size∧w.heap.size+1+1<k:=fun k hk=>⟨by simp;omega,by omega⟩
  have yL:=Lib.hid qZ
  have Dc:=Lib.hid hAo
  clear hc hf hr hsz hsz0 hsz1 qZ hAo hd5 hs5
  generalize w5.alloc (.cells (aY r' d p) 86)=V at *
  generalize w5.heap.size=A at *
  obtain⟨hc,hf,hr,hlt⟩:=ax nJ
  have KC:=hsm
  clear KC
  go_wp2_with fail
  refine(yA _ _ _ _ _ hsm).mono ?_
  rintro e V2 ⟨rfl,hbv⟩
  rw[h2]
  have KD:=ag qY hbv
  have hpp:=fD (ag kU hbv)
  have hsz:w.heap.size+1+1<V2.heap.size:=by have:=(ag kU hbv).size;have:=vI.out;omega
  clear hc hf hr hlt
  go_wp2_with fail
  have hrow:=gJ (w:=V2) (oP bg aV) ((hpp (w.heap.size+1+1) 0 17 (by simp)).trans hz)
  exact bodyPost_ret (kT (by rfl) Tryz.underlying44 rfl (by kernel_rfl) rfl hrow) rfl ⟨bg,rfl,Go.WW.Below.putRow KD (by omega),fun x _=>FY x⟩
 ·intro w4 hb4
  change aG _ _ _ _ _ [_,_,_,_,_,_] _ _
  clear hc hf hr hpp hsz hsz0 hsz1
  have hB4:=ag hB hb4
  obtain⟨hc,hf,hr⟩:=aQ hb4
  have hsz:w.heap.size+1+1<w4.heap.size:=by have:=hb4.size;have:=vI.out;omega
  have hsz0:w.heap.size<w4.heap.size:=by omega
  have hsz1:w.heap.size+1<w4.heap.size:=by omega
  repeat (first|(refine ai (by rfl) ?_)|(refine au (by rfl) (by rfl) (fun K hK=>?_);go_big_quiet_op;refine hK _ ?_;clear hK K))
  refine aB (by rfl) (by rfl) (fun K hK=>?_)
  go_wp2_with fail
  refine hK _ _ (aj (ay hb4 _)) ?_
  clear hK K
  repeat (first|(refine ai (by rfl) ?_)|(refine au (by rfl) (by rfl) (fun K hK=>?_);go_big_quiet_op;refine hK _ ?_;clear hK K))
  refine aB (by rfl) (by rfl) (fun K hK=>?_)
  go_wp2_with fail
  have iV:=ay hb4 (.cells #[.slice none 0 0,.string ⟨#[]⟩,.slice none 0 0,.int .u32 0,.int .i64 0,.slice none 0 0,.string ⟨#[]⟩,.int .i64 0,.int .i64 0,.int .i64 0,.int .i64 0,.int .i64 0,.int .i64 0,.int .i64 0,.slice none 0 0,.slice none 0 0,.slice none 0 0,.string ⟨#[]⟩,.int .i64 0,.int .i64 0,.int .i64 0,.int .i64 0,.int .i64 0,.int .i64 0,.int .i64 0,.int .i64 0,.int .i64 0] 86)
  have KA:=ag hB iV
  refine(yI r d _ (he.later KA)).mono ?_
  rintro e w5 ⟨r',rfl,hb5,hd5⟩
  have bJ:=ag iV hb5
  have hk5:w5.heap[w4.heap.size]?=some (.cells #[.slice none 0 0,.string ⟨#[]⟩,.slice none 0 0,.int .u32 0,.int .i64 0,.slice none 0 0,.string ⟨#[]⟩,.int .i64 0,.int .i64 0,.int .i64 0,.int .i64 0,.int .i64 0,.int .i64 0,.int .i64 0,.slice none 0 0,.slice none 0 0,.slice none 0 0,.string ⟨#[]⟩,.int .i64 0,.int .i64 0,.int .i64 0,.int .i64 0,.int .i64 0,.int .i64 0,.int .i64 0,.int .i64 0,.int .i64 0] 86):=aI hb5 (World.alloc_heap_new _ _)
  have nM:aX w5 w4.heap.size 0 27=true:=iC hk5 (by simp)
  go_wp2_with fail
  refine hK _ _ (aj bJ) ?_
  clear hK K
  clear hc hf hr
  obtain⟨hc,hf,hr⟩:=aQ bJ
  repeat (first|(refine ai (by rfl) ?_)|(refine au (by rfl) (by rfl) (fun K hK=>?_);go_big_quiet_op;refine hK _ ?_;clear hK K))
  refine aB (by rfl) (by rfl) (fun K hK=>?_)
  go_wp2_with fail
  have yN:Below (((w.alloc (.cells (ae r d) 44)).alloc (.cells (ak p) 52)).alloc (.cells (ae bg aV) 44)).heap.size (((w.alloc (.cells (ae r d) 44)).alloc (.cells (ak p) 52)).alloc (.cells (ae bg aV) 44)) (putRow w5 w4.heap.size 0 (aY r' d p)):=Go.WW.Below.putRow bJ hb4.size
  refine hK _ _ (aj yN) ?_
  clear hK K
  repeat (first|(refine ai (by rfl) ?_)|(refine au (by rfl) (by rfl) (fun K hK=>?_);go_big_quiet_op;refine hK _ ?_;clear hK K))
  refine bz ?_
  have nJ:(putRow w5 w4.heap.size 0 (aY r' d p)).heap[w4.heap.size]?=some (.cells (aY r' d p) 86):=(jk hk5 (by simp[go_sem])).trans (by rw[kR (by simp[go_sem])])
  have kU:=yN
  have qY:=ag hB kU
  have hs5:=hb5.size
  simp at hs5
  have hd:bu (putRow w5 w4.heap.size 0 (aY r' d p)) (fun k=>w4.heap.size+1≤k∧k<w5.heap.size) (fun x=>aS x r' d):=hd5.to (fun k hk=>gU (by have h1:=hk.1;simp at h1;omega)) (fun k hk=>⟨by have h1:=hk.1;simpa using h1,hk.2⟩)
  have hAo:¬(w4.heap.size+1≤w4.heap.size∧w4.heap.size<w5.heap.size):=by omega
  have Ky:w.heap.size+1+1<w4.heap.size:=by omega
  have qZ:∀k,(w4.heap.size+1≤k∧k<w5.heap.size)→k<(putRow w5 w4.heap.size 0 (aY r' d p)).heap.size∧w.heap.size+1+1<k:=fun k hk=>⟨by rw[gV];omega,by omega⟩
  have yL:=Lib.hid qZ
  have Dc:=Lib.hid hAo
  clear hc hf hr hsz hsz0 hsz1 qZ hAo hd5 hs5 nM hk5 yN
  generalize putRow w5 w4.heap.size 0 (aY r' d p)=V at *
  generalize w4.heap.size=A at *
  obtain⟨hc,hf,hr,hlt⟩:=ax nJ
  have KC:=hsm
  clear KC
  go_wp2_with fail
  refine(yA _ _ _ _ _ hsm).mono ?_
  rintro e V2 ⟨rfl,hbv⟩
  rw[h2]
  have KD:=ag qY hbv
  have hpp:=fD (ag kU hbv)
  have hsz:w.heap.size+1+1<V2.heap.size:=by have:=(ag kU hbv).size;have:=vI.out;omega
  clear hc hf hr hlt
  go_wp2_with fail
  have hrow:=gJ (w:=V2) (oP bg aV) ((hpp (w.heap.size+1+1) 0 17 (by simp)).trans hz)
  exact bodyPost_ret (kT (by rfl) Tryz.underlying44 rfl (by kernel_rfl) rfl hrow) rfl ⟨bg,rfl,Go.WW.Below.putRow KD (by omega),fun x _=>FY x⟩
end Go.Proofs.YtpfifochimkpfaaGreatDoor
namespace Go.WW
open Go.RowKit
def aO(fails last:Int):Entry:={aV with name:=⟨[⟨#[97]⟩],⟨#[82]⟩⟩,fails:=fails,dw:=last}
def cu(fails:Int):ah:=⟨⟨#[112]⟩,1,1,0,0,0,0,fails,100,50⟩
theorem afb{P:Program}{fn:Func}{a a2:Tmp}{T T2:TypeId}{d d2:TypeDesc}{n n2:Nat}(hf:fn.results=#[.cell a T,.cell a2 T2])(hu:P.underlying T=some d)(hd:d.isRow=true)(hi:(P.info? T).map (·.size)=some n)
  (hu2:P.underlying T2=some d2) (hd2:d2.isRow=true) (hi2:(P.info? T2).map (·.size)=some n2) {tmps:Array Value} {w:World} {b o b2 o2:Nat} {cs cs2:Array Value}
  (ha:tmps.getD a undef=.pointer (some ⟨b,o,none⟩)) (h:row? w b o n=some cs) (ha2:tmps.getD a2 undef=.pointer (some ⟨b2,o2,none⟩)) (h2:row? w b2 o2 n2=some cs2) :
  (results fn tmps).run P w=.ok (.tuple #[.agg cs,.agg cs2]) w:=by
 have hl:=run_loadVar_row hu hd hi h
 have hl2:=run_loadVar_row hu2 hd2 hi2 h2
 have ha':(asAddr (tmps.getD a undef)).run P w=.ok ⟨b,o,none⟩ w:=by rw[ha];rfl
 have Tz:(asAddr (tmps.getD a2 undef)).run P w=.ok ⟨b2,o2,none⟩ w:=by rw[ha2];rfl
 rw[Array.getD_eq_getD_getElem?]at ha' Tz
 unfold results
 rw[hf]
 simp[Sem.run_bind,ha',hl,Tz,hl2,Result.andThen]
def afc(w:World)(e:Ending)(w':World):Prop:=∃r,e=.returned (.tuple #[.agg (ae r (aO 0 0)),.agg (ak (cu 3))])∧Below w.heap.size w w'∧bu w' (fresh w.heap.size w') (fun x=>aS x r (aO 0 0))
theorem afd(w:World)(g cap:Nat)(f l:Int)(h:w.cell? ⟨g,0,none⟩=some (.string ⟨#[97]⟩)):aS w {bg with parts:=⟨some ⟨g,0,none⟩,cap⟩} (aO f l):=by
 have z:=FY w
 refine⟨⟨⟨by simp[aO,lim],fun i hi=>?_⟩,by show 1≤lim;unfold lim;omega⟩,z.aliases,z.keys,z.targets,z.bW,z.history,z.aP,z.attrs⟩
 have hi':i<1:=hi
 obtain rfl:i=0:=by omega
 exact⟨g,0,_,rfl,h,⟨#[97]⟩,rfl,rfl,by show 1≤lim;unfold lim;omega⟩
end Go.WW
namespace Go.Proofs.YtpfifochimkpfaaGreatDoor
open Go.RowKit Go.WW
theorem Gf(r:aK)(d:Entry)(p:ah)(now:Int)(want:Bool)(w:World)(he:aS w r d)(hs:p.name.size≤lim)(h1:fK d p now=true) :
  Calls Tryz.prog 24 #[.agg (ae r d),.agg (ak p),.int .i64 now,.bool want] w fun e w'=>e=.returned (.bool (fZ d p now == want))∧Below w.heap.size w w':=by
 have hB:Below w.heap.size w ((w.alloc (.cells (ae r d) 44)).alloc (.cells (ak p) 52)):=((Below.refl _ _).alloc (Nat.le_refl _) _).alloc (by simp) _
 have hL:=aeu r d p now _ (he.later hB) hs
 rw[h1]at hL
 have HL:=Lib.hid hL
 clear hL
 go_enter Tryz.func24,Tryz.ntmps24
 go_wp2_with fail
 refine(HL.out).mono ?_
 rintro e w2 ⟨rfl,hb2⟩
 have hB2:=ag hB hb2
 cases hk:fZ d p now<;>cases want
 all_goals go_wp2_with (go_at_call 16;refine(iy _ _).mono ?_;rintro e w' ⟨rfl,rfl⟩)
 all_goals go_ret
 all_goals exact⟨by first|rfl|(rw[hk];rfl),hB2⟩
theorem afe(ρ:Operand→Value)(dst:Option Tmp)(x:Operand)(ty:TypeId)(pos:String)(after:Array Edge)(guard:Option (Nat×Bool)):execOp ρ {dst,op:=.build 44 #[(0,x)],type:=ty,pos,after,guard}=iI 44 #[(0,ρ x)]:=by simp[execOp,iI]
theorem aff(w:World)(g cap:Nat):(iI 44 #[(0,.agg #[.slice (some ⟨g,0,none⟩) 1 cap,.string ⟨#[82]⟩])]).run Tryz.prog w=.ok (.value (.agg (ae {bg with parts:=⟨some ⟨g,0,none⟩,cap⟩} (aO 0 0)))) w:=by kernel_rfl
theorem afg(ρ:Operand→Value)(dst:Option Tmp)(ty:TypeId)(pos:String)(after:Array Edge)(guard:Option (Nat×Bool)) :
  execOp ρ {dst,op:=.build 52 #[(0,.const (.string ⟨#[112]⟩)),(1,.const (.int .i64 1)),(2,.const (.int .i64 1)),(7,.const (.int .i64 3)),(8,.const (.int .i64 100)),(9,.const (.int .i64 50))],type:=ty,pos,after,guard}=iI 52 #[(0,ρ (.const (.string ⟨#[112]⟩))),(1,ρ (.const (.int .i64 1))),(2,ρ (.const (.int .i64 1))),(7,ρ (.const (.int .i64 3))),(8,ρ (.const (.int .i64 100))),(9,ρ (.const (.int .i64 50)))]:=by simp[execOp,iI]
theorem afh(w:World):(iI 52 #[(0,.string ⟨#[112]⟩),(1,.int .i64 1),(2,.int .i64 1),(7,.int .i64 3),(8,.int .i64 100),(9,.int .i64 50)]).run Tryz.prog w=.ok (.value (.agg (ak (cu 3)))) w:=by kernel_rfl
attribute [go_sem] aff afh
attribute [go_sem ↓] afe afg
theorem afi(w:World):Calls Tryz.prog 19 #[] w (afc w):=by
 go_enter Tryz.func19,Tryz.ntmps19
 go_wp2_with fail
 refine bodyPost_ret (afb (n:=17) (n2:=10) (cs:=ae {bg with parts:=⟨some ⟨w.heap.size+1+1,0,none⟩,1⟩} (aO 0 0)) (cs2:=ak (cu 3)) (by rfl) Tryz.underlying44 rfl (by kernel_rfl) Tryz.underlying52 rfl (by kernel_rfl) rfl (by rw[Qr (by omega)];exact gJ (oP _ _) (by rw[x9 (by simp;omega),x9 (by simp),Jn rfl (by simp)])) rfl (gJ (og _) (by rw[JI (by omega),x9 (by simp),Jn (by simp) (by simp)]))) rfl
  ⟨{bg with parts:=⟨some ⟨w.heap.size+1+1,0,none⟩,1⟩},rfl,Go.WW.Below.putRow (Go.WW.Below.putRow ((((Below.refl _ w).alloc (Nat.le_refl _) _).alloc (by simp) _).alloc (by simp;omega) _) (by omega)) (by omega),fun x hx=>afd x _ _ _ _ ((World.cell?_of_block (a:=⟨w.heap.size+1+1,0,none⟩) (hx _ ⟨by simp;omega,by rw[gV,gV];simp⟩)).trans (by rw[cell?_putRow_other (by omega),cell?_putRow_other (by omega)];simp[go_sem]))⟩
structure dG(w:World)(b n e p:Nat)(re:ByteArray)(s:Int)(N:List (ByteArray×Value))(E:List EE)(P:List ah):Prop where
 box:w.heap[b]?=some (.cells (lN re s n e p) 100)
 nm:MapOf w n N
 em:MapOf w e (E.map fun x=>(textOf x.2.name,Value.agg (cZ x)))
 pm:MapOf w p (P.map fun q=>(q.name,Value.agg (ak q)))
 ne:n≠e∧n≠p∧e≠p
theorem jo{w:World}{b n:Nat}{c:Array Value}{t:TypeId}{m:List (ByteArray×Value)}(h:w.heap[b]?=some (.cells c t))(hm:MapOf w n m):b≠n:=by
 rintro rfl
 obtain⟨es,clock,h1,_⟩:=hm
 rw[h]at h1;cases h1
theorem dG.later{w w':World}{b n e p:Nat}{re:ByteArray}{s:Int}{N:List (ByteArray×Value)}{E:List EE}{P:List ah}(h:dG w b n e p re s N E P)(hb:Below w.heap.size w w'):dG w' b n e p re s N E P:=
 ⟨aI hb h.box,h.nm.at (hb.block n h.nm.lt),h.em.at (hb.block e h.em.lt),h.pm.at (hb.block p h.pm.lt),h.ne⟩
theorem KE(w:World)(b:Nat)(clock:Nat)(h:w.heap[b]?=some (.map #[] clock)):MapOf w b []:=⟨#[],clock,h,by simp,by simp,by simp,by simp⟩
theorem Gg(re:ByteArray)(w:World)(hs:re.size≤lim)(hok:iK re=true):Calls Tryz.prog 26 #[.string re] w fun x w'=>∃b n e p,x=.returned (.tuple #[.pointer (some ⟨b,0,none⟩),.int .i64 0])∧Below w.heap.size w w'∧dG w' b n e p re 0 [] [] []∧w.heap.size≤b∧w.heap.size≤n∧w.heap.size≤e∧w.heap.size≤p:=by
 have hR:=QV re w hs
 rw[hok]at hR
 have HR:=Lib.hid hR
 clear hR
 have hmm:=@run_makeMap Tryz.prog
 go_enter Tryz.func26,Tryz.ntmps26
 go_wp2_with fail
 refine HR.out.mono ?_
 rintro x w1 ⟨rfl,hb1⟩
 dsimp only
 go_wp2_with fail
 have hs1:=hb1.size
 refine bodyPost_ret (results_tmp2 (by rfl) _ _ _) rfl ⟨w1.heap.size+1+1+1,w1.heap.size,w1.heap.size+1,w1.heap.size+1+1,rfl,?_,⟨?_,?_,?_,?_,by omega⟩,by omega,by omega,by omega,by omega⟩
 ·exact ag hb1 (((((Below.refl _ w1).alloc (Nat.le_refl _) _).alloc (by simp) _).alloc (by simp;omega) _).alloc (by simp;omega) _)
 ·have:=World.alloc_heap_new (((w1.alloc (.map #[] 0)).alloc (.map #[] 0)).alloc (.map #[] 0)) (.cells (lN re 0 w1.heap.size (w1.heap.size+1) (w1.heap.size+1+1)) 100)
  rw[show(((w1.alloc (.map #[] 0)).alloc (.map #[] 0)).alloc (.map #[] 0)).heap.size=w1.heap.size+1+1+1 by simp]at this
  exact this
 ·refine KE _ _ 0 ?_
  rw[Below.heap_alloc _ _ _ (by simp;omega),Below.heap_alloc _ _ _ (by simp;omega),Below.heap_alloc _ _ _ (by simp)];exact World.alloc_heap_new _ _
 ·refine KE _ _ 0 ?_
  rw[Below.heap_alloc _ _ _ (by first|(simp;done)|(simp;omega)),Below.heap_alloc _ _ _ (by first|(simp;done)|(simp;omega))]
  have:=World.alloc_heap_new (w1.alloc (.map #[] 0)) (.map #[] 0);simpa using this
 ·refine KE _ _ 0 ?_
  rw[Below.heap_alloc _ _ _ (by simp)]
  have:=World.alloc_heap_new ((w1.alloc (.map #[] 0)).alloc (.map #[] 0)) (.map #[] 0);simpa using this
end Go.Proofs.YtpfifochimkpfaaGreatDoor
