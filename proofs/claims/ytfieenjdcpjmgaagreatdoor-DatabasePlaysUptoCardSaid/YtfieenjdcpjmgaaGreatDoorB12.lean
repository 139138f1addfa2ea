/- A part of the proof. -/
import Derived.Test.YtfieenjdcpjmgaaGreatDoorB02
import Derived.Test.YtfieenjdcpjmgaaGreatDoorB11
import Derived.Test.YtfieenjdcpjmgaaGreatDoorB10
import Derived.Test.YtfieenjdcpjmgaaGreatDoorB04
set_option maxRecDepth 100000
set_option maxHeartbeats 2000000
namespace Go.WW
open Go.RowKit
section
variable {P:Program} {ops:Array Oper} {S:World→Prop} {st:Oper→Bool} {Q:Act→World→Prop}
structure KX(st:Oper→Bool)(ops:Array Oper)(m:Array (List Nat))(x c:Nat):Prop where
 jl:Region.noSelect ops=true
 back:∀j oj,ops[j]?=some oj→∀e∈oj.after,Region.binds .any e=true→e.on<j
 pred:∀j oj,ops[j]?=some oj→∀i∈m.getD j [],∃e∈oj.after,Region.binds .any e=true∧(e.on=i∨i∈m.getD e.on [])
 pair:∀j oj,ops[j]?=some oj→∀i,i<j→∀oi,ops[i]?=some oi→(∃e∈oj.after,Region.binds .any e=true∧e.on=i)∨(oi.apart ops oj=true∧(st oi=true∨st oj=true∨i∈m.getD j []∨(i=c∧j=x)))
 past:∀i oi ox,ops[i]?=some oi→ops[x]?=some ox→c<i→i<x→ox.apart ops oi=true∧st oi=true
 look:∀i oi,ops[i]?=some oi→i≠x→i≠c→st oi=true∨c∈m.getD i []
 lt:c<x
theorem UF{m:Array (List Nat)}{x c:Nat}(hok:KX st ops m x c){listed:Array Bool}
  (hdown:∀k o,ops[k]?=some o→listed.getD k false=true→∀e∈o.after,Region.binds .any e=true→listed.getD e.on false=true) :
  ∀(j:Nat) (oj:Oper),ops[j]?=some oj→(∀e∈oj.after,Region.binds .any e=true→listed.getD e.on false=true)→∀i∈m.getD j [],listed.getD i false=true:=by
 intro j
 induction j using Nat.strongRecOn with
 |_ j ih=>
  intro oj hj hall i hi
  obtain⟨e,he,hb,hor⟩:=hok.pred j oj hj i hi
  rcases hor with rfl|hor
  ·exact hall e he hb
  ·have hlt:=hok.back j oj hj e he hb
   have hjs:j<ops.size:=(Array.getElem?_eq_some_iff.1 hj).1
   have hoe:ops[e.on]?=some (ops[e.on]'(by omega)):=by simp
   exact ih e.on hlt _ hoe (hdown _ _ hoe (hall e he hb)) i hor
def mv(x c:Nat)(L:List Nat):List Nat:=L.filter (fun k=>decide (k<c))++x::L.filter (fun k=>decide (c≤k)&&decide (k≠x))
theorem UG(c:Nat):∀(L:List Nat),L.Pairwise (· < ·)→L.filter (fun k=>decide (k<c))++L.filter (fun k=>decide (c≤k))=L
 | [],_=>rfl
 |k::L,h=>by
  have hp:=List.pairwise_cons.1 h
  by_cases hk:k<c
  ·have ih:=UG c L hp.2
   simp[hk,show ¬c≤k by omega,ih]
  ·have h1:L.filter (fun k=>decide (k<c))=[]:=by rw[List.filter_eq_nil_iff];intro y hy;have:=hp.1 y hy;simp;omega
   have h2:L.filter (fun k=>decide (c≤k))=L:=by rw[List.filter_eq_self];intro y hy;have:=hp.1 y hy;simp;omega
   simp[hk,show c≤k by omega,h1,h2]
theorem ahq{m:Array (List Nat)}{x c:Nat}(hok:KX st ops m x c){Q':Exit→Act→World→Prop}(hQ:∀a w,Q a w→Q' .normal a w) :
  ∀(n:Nat) (L:List Nat) (listed:Array Bool) (a:Act) (w:World),L.length=n→L.Pairwise (· < ·)→listed.size=ops.size→(∀j,j∈L↔j<ops.size∧listed.getD j true=false)→
   (∀k o,ops[k]?=some o→listed.getD k false=true→∀e∈o.after,Region.binds .any e=true→listed.getD e.on false=true)→
   S w→aH P ops st S Q (L.filterMap (ops[·]?)) a w→(x∈L→c∈L→aH P ops st S Q ((mv x c L).filterMap (ops[·]?)) a w)→wpAny P .any ops Q' n listed a w:=by
 intro n
 induction n with
 |zero=>
  intro L listed a w hn _ hsz hL _ _ h _
  have:L=[]:=List.eq_nil_of_length_eq_zero hn
  subst this
  refine⟨?_,hQ _ _ h⟩
  cases hr:Region.ready .any ops listed with
  |nil=>rfl
  |cons i r=>
   have hi:i∈Region.ready .any ops listed:=by rw[hr];simp
   obtain⟨h0,o,ho,_⟩:=mem_ready.1 hi
   have:=(hL i).2 ⟨(Array.getElem?_eq_some_iff.1 ho).1,h0⟩
   cases this
 |succ n ih=>
  intro L listed a w hn hsort hsz hL hdown hS h hX
  refine⟨fun hr=>?_,fun i hi=>?_⟩
  ·exfalso
   cases L with
   |nil=>simp at hn
   |cons j L=>
    obtain⟨hj,hjl⟩:=(hL j).1 (by simp)
    have hoj:ops[j]?=some ops[j]:=by simp[hj]
    have:j∈Region.ready .any ops listed:=by
     refine mem_ready.2 ⟨hjl,_,hoj,fun e he hb=>?_⟩
     have hlt:=hok.back j _ hoj e he hb
     have hnot:e.on∉j::L:=by
      intro hmem
      rcases List.mem_cons.1 hmem with h1|h1
      ·omega
      ·have:=(List.pairwise_cons.1 hsort).1 _ h1;omega
     have h2:listed.getD e.on true≠false:=fun hf=>hnot ((hL e.on).2 ⟨by omega,hf⟩)
     have hes:e.on<listed.size:=by omega
     simp[hes]at h2 ⊢;exact h2
    rw[hr]at this;cases this
  ·obtain⟨h0,o,ho,hall⟩:=mem_ready.1 hi
   have his:i<ops.size:=(Array.getElem?_eq_some_iff.1 ho).1
   have hiL:i∈L:=(hL i).2 ⟨his,h0⟩
   have hnl:∀k∈L,¬listed.getD k false=true:=fun k hk hf=>by
    have hkl:=((hL k).1 hk).2
    rw[sV hf]at hkl;cases hkl
   obtain⟨L1,L2,rfl⟩:=List.append_of_mem hiL
   have dN:=List.pairwise_append.1 hsort
   have hlt1:∀y∈L1,y<i:=fun y hy=>dN.2.2 y hy i (by simp)
   have hgt2:∀y∈L2,i<y:=fun y hy=>(List.pairwise_cons.1 dN.2.1).1 y hy
   have xg:(L1++L2).Pairwise (· < ·):=List.pairwise_append.2 ⟨dN.1,(List.pairwise_cons.1 dN.2.1).2,fun y hy z hz=>dN.2.2 y hy z (by simp[hz])⟩
   have hrest:∀a' w',S w'→aH P ops st S Q ((L1++L2).filterMap (ops[·]?)) a' w'→(x∈L1++L2→c∈L1++L2→aH P ops st S Q ((mv x c (L1++L2)).filterMap (ops[·]?)) a' w')→wpAny P .any ops Q' n (listed.setIfInBounds i true) a' w':=by
    intro a' w' hS' hh hh2
    refine ih (L1++L2) (listed.setIfInBounds i true) a' w' ?_ xg (by simpa using hsz) ?_ ?_ hS' hh hh2
    ·simp at hn ⊢;omega
    ·intro j
     by_cases hji:j=i
     ·subst hji
      constructor
      ·intro hm
       exfalso
       rcases List.mem_append.1 hm with h1|h1
       ·have:=hlt1 _ h1;omega
       ·have:=hgt2 _ h1;omega
      ·rintro⟨_,hf⟩
       have:j<listed.size:=by omega
       simp[this]at hf
     ·rw[getD_set_ne true (Ne.symm hji),←hL j]
      simp[hji]
    ·intro k ok hk hkl e he hb
     by_cases hki:k=i
     ·subst hki
      rw[ho]at hk;cases hk
      exact getD_set_true (hall e he hb)
     ·rw[getD_set_ne false (Ne.symm hki)]at hkl
      exact getD_set_true (hdown k ok hk hkl e he hb)
   have pass:∀k ox,ops[k]?=some ox→k∈L1++i::L2→k<i→¬(k=c∧i=x)→(∀cs b,ox.op≠.select cs b)∧ox.apart ops o=true∧(st ox=true∨st o=true):=by
    intro k ox hox hk hki hne
    refine⟨(Region.noSelect_spec hok.jl k ox · · hox),?_⟩
    rcases hok.pair i o ho k hki ox hox with⟨e,he,hb,rfl⟩|⟨hap,hor⟩
    ·exact absurd (hall e he hb) (hnl _ hk)
    ·refine⟨hap,?_⟩
     rcases hor with h1|h1|h1|h1
     ·exact .inl h1
     ·exact .inr h1
     ·exact absurd (UF hok hdown i o ho hall k h1) (hnl _ hk)
     ·exact absurd h1 hne
   have hsel:=(Region.noSelect_spec hok.jl i o · · ho)
   have single:∀(R:List Oper) (K:Act→World→Prop),aH P ops st S Q (o::R) a w→(∀a' w',S w'→aH P ops st S Q R a' w'→K a' w')→wpOp P ops Q' i K a w:=by
    intro R K bY hrest
    unfold wpOp
    simp only[ho]
    rw[bJ]at bY
    split
    ·rename_i hw
     rw[if_pos hw]at bY
     refine .inl ?_
     by_cases hs:st o=true
     ·rw[if_pos hs]at bY
      obtain⟨v,hv,hh⟩:=bY
      unfold Oper.wp
      rw[hv w hS]
      exact hrest _ _ hS hh
     ·rw[if_neg hs]at bY
      exact qL (Oper.wp_mono (fun a' w' hh=>hrest a' w' hh.1 hh.2) bY)
    ·rename_i hw
     rw[if_neg hw]at bY
     exact hrest _ _ hS bY
   have hnot:∀y∈L1++L2,y≠i:=fun y hy e=>by
    subst e
    rcases List.mem_append.1 hy with h1|h1
    ·have:=hlt1 _ h1;omega
    ·have:=hgt2 _ h1;omega
   have KY:(∀k∈L1,¬(k=c∧i=x))→aH P ops st S Q (o::(L1++L2).filterMap (ops[·]?)) a w:=fun hk=>by
    rw[List.filterMap_append,List.filterMap_cons_some ho]at h
    rw[List.filterMap_append]
    exact lV hsel _ (fun y hy=>by
     obtain⟨k,jK,hox⟩:=List.mem_filterMap.1 hy
     exact pass k y hox (by simp[jK]) (hlt1 k jK) (hk k jK)) a w hS h
   by_cases hb:x∈L1++i::L2∧c∈L1++i::L2
   ·obtain⟨hx,hc⟩:=hb
    have hcx:=hok.lt
    have hX':=hX hx hc
    by_cases hix:i=x
    ·subst hix
     have e1:(L1++i::L2).filter (fun k=>decide (k<c))=(L1++L2).filter (fun k=>decide (k<c)):=by
      simp[List.filter_append,show ¬i<c by omega]
     have e2:(L1++i::L2).filter (fun k=>decide (c≤k)&&decide (k≠i))=(L1++L2).filter (fun k=>decide (c≤k)):=by
      have:(L1++i::L2).filter (fun k=>decide (c≤k)&&decide (k≠i))=(L1++L2).filter (fun k=>decide (c≤k)&&decide (k≠i)):=by simp[List.filter_append]
      rw[this]
      apply List.filter_congr
      intro y hy
      simp[hnot y hy]
     have e3:=UG c _ xg
     rw[mv,e1,e2,List.filterMap_append,List.filterMap_cons_some ho]at hX'
     have hf:=lV hsel _ (fun y hy=>by
      obtain⟨k,jK,hox⟩:=List.mem_filterMap.1 hy
      have hk:=List.mem_filter.1 jK
      have hkc:k<c:=by simpa using hk.2
      have ou:k∈L1++i::L2:=by
       rcases List.mem_append.1 hk.1 with h1|h1
       ·simp[h1]
       ·simp[h1]
      exact pass k y hox ou (by omega) (fun h'=>by omega)) a w hS hX'
     rw[←List.filterMap_append,e3]at hf
     exact single _ _ hf (fun a' w' hS' hh=>hrest a' w' hS' hh (fun h' _=>absurd rfl (hnot _ h')))
    ·by_cases hic:i=c
     ·subst hic
      exact single _ _ (KY (fun k hk h'=>hix h'.2)) (fun a' w' hS' hh=>hrest a' w' hS' hh (fun _ h'=>absurd rfl (hnot _ h')))
     ·have hst:st o=true:=by
       rcases hok.look i o ho hix hic with h1|h1
       ·exact h1
       ·exact absurd (UF hok hdown i o ho hall c h1) (hnl _ hc)
      have hf1:=KY (fun k hk h'=>hix h'.2)
      have hox:∃ox,ops[x]?=some ox:=by
       have:=((hL x).1 hx).1
       exact⟨ops[x],by simp[this]⟩
      obtain⟨ox,hox⟩:=hox
      have hf2:aH P ops st S Q (o::(mv x c (L1++L2)).filterMap (ops[·]?)) a w:=by
       by_cases hlt:i<c
       ·have e1:(L1++i::L2).filter (fun k=>decide (k<c))=L1.filter (fun k=>decide (k<c))++i::L2.filter (fun k=>decide (k<c)):=by simp[List.filter_append,hlt]
        have e2:(L1++i::L2).filter (fun k=>decide (c≤k)&&decide (k≠x))=(L1++L2).filter (fun k=>decide (c≤k)&&decide (k≠x)):=by simp[List.filter_append,show ¬c≤i by omega]
        rw[mv,e1,e2,List.append_assoc,List.cons_append,List.filterMap_append,List.filterMap_cons_some ho]at hX'
        have hf:=lV hsel _ (fun y hy=>by
         obtain⟨k,jK,hoy⟩:=List.mem_filterMap.1 hy
         have hk:=List.mem_filter.1 jK
         exact pass k y hoy (by simp[hk.1]) (hlt1 k hk.1) (fun h'=>hix h'.2)) a w hS hX'
        rw[←List.filterMap_append,←List.append_assoc,←List.filter_append]at hf
        exact hf
       ·have hgt:c<i:=by omega
        have e1:(L1++i::L2).filter (fun k=>decide (k<c))=(L1++L2).filter (fun k=>decide (k<c)):=by simp[List.filter_append,hlt]
        have e2:(L1++i::L2).filter (fun k=>decide (c≤k)&&decide (k≠x))=L1.filter (fun k=>decide (c≤k)&&decide (k≠x))++i::L2.filter (fun k=>decide (c≤k)&&decide (k≠x)):=by
         simp[List.filter_append,show c≤i by omega,hix]
        rw[mv,e1,e2,←List.cons_append,←List.append_assoc,List.filterMap_append,List.filterMap_cons_some ho]at hX'
        have hf:=lV hsel _ (fun y hy=>by
         obtain⟨k,jK,hoy⟩:=List.mem_filterMap.1 hy
         rcases List.mem_append.1 jK with h1|h1
         ·have hk:=List.mem_filter.1 h1
          have hkc:k<c:=by simpa using hk.2
          have ou:k∈L1++i::L2:=by
           rcases List.mem_append.1 hk.1 with h2|h2
           iterate 2
            ·simp[h2]
          exact pass k y hoy ou (by omega) (fun h'=>hix h'.2)
         ·rcases List.mem_cons.1 h1 with h1|h1
          ·subst h1
           by_cases hki:k<i
           ·exact pass k y hoy hx hki (fun h'=>hix h'.2)
           ·obtain⟨ha,hs⟩:=hok.past i o y ho hoy hgt (by omega)
            exact⟨(Region.noSelect_spec hok.jl k y · · hoy),ha,.inr hs⟩
          ·have hk:=List.mem_filter.1 h1
           exact pass k y hoy (by simp[hk.1]) (hlt1 k hk.1) (fun h'=>hix h'.2)) a w hS hX'
        rw[←List.filterMap_append,List.append_assoc,List.cons_append,←List.filter_append]at hf
        exact hf
      have hxR:x∈L1++L2:=by
       rcases List.mem_append.1 hx with h1|h1
       ·simp[h1]
       ·rcases List.mem_cons.1 h1 with h1|h1
        ·exact absurd h1.symm hix
        ·simp[h1]
      unfold wpOp
      simp only[ho]
      rw[bJ]at hf1 hf2
      split
      ·rename_i hw
       rw[if_pos hw,if_pos hst]at hf1 hf2
       obtain⟨v,hv,hh⟩:=hf1
       obtain⟨v',hv',hh'⟩:=hf2
       have e:v'=v:=by
        have:=(hv' w hS).symm.trans (hv w hS)
        simpa using this
       subst e
       refine .inl ?_
       unfold Oper.wp
       rw[hv w hS]
       exact hrest _ _ hS hh (fun _ _=>hh')
      ·rename_i hw
       rw[if_neg hw]at hf1 hf2
       exact hrest _ _ hS hf1 (fun _ _=>hf2)
   ·refine single _ _ (KY (fun k hk h'=>hb ⟨by rw[←h'.2];simp,by rw[←h'.1];simp[hk]⟩)) (fun a' w' hS' hh=>hrest a' w' hS' hh (fun h1 h2=>absurd ⟨?_,?_⟩ hb))
    ·rcases List.mem_append.1 h1 with h3|h3
     ·simp[h3]
     ·simp[h3]
    ·rcases List.mem_append.1 h2 with h3|h3
     ·simp[h3]
     ·simp[h3]
def Dn(st:Oper→Bool)(ops:Array Oper)(x c:Nat):Bool:=
 let m:=nG st ops
 Region.noSelect ops&&decide (c<x)&&(List.range ops.size).all fun j=>match ops[j]? with
  |none=>true
  |some oj=>
   oj.after.toList.all (fun e=>!Region.binds .any e || decide (e.on<j))&&
   (m.getD j []).all (fun i=>oj.after.toList.any fun e=>Region.binds .any e&&(e.on == i || (m.getD e.on []).contains i))&&
   ((List.range j).all fun i=>match ops[i]? with
    |none=>true
    |some oi=>oj.after.toList.any (fun e=>Region.binds .any e&&e.on == i) || (oi.apart ops oj&&(st oi || st oj || (m.getD j []).contains i || (i == c&&j == x))))&&
   (j == x || j == c || st oj || (m.getD j []).contains c)&&
   (match ops[x]? with
    |none=>true
    |some ox=>!(decide (c<j)&&decide (j<x)) || (ox.apart ops oj&&st oj))
theorem ahr{x c:Nat}(h:Dn st ops x c=true):KX st ops (nG st ops) x c:=by
 unfold Dn at h
 simp only[Bool.and_eq_true,List.all_eq_true,List.mem_range,decide_eq_true_eq]at h
 obtain⟨⟨hs,hlt⟩,h⟩:=h
 have lt:∀{j:Nat} {oj:Oper},ops[j]?=some oj→j<ops.size:=fun hj=>(Array.getElem?_eq_some_iff.1 hj).1
 refine⟨hs,fun j oj hj=>?_,fun j oj hj=>?_,fun j oj hj=>?_,fun j oj ox hj hox=>?_,fun j oj hj=>?_,hlt⟩
 all_goals
  have hh:=h j (lt hj)
  simp only[hj,Bool.and_eq_true,List.all_eq_true,List.mem_range]at hh
  obtain⟨⟨⟨⟨h1,h2⟩,h3⟩,h4⟩,h5⟩:=hh
 ·intro e he hb
  have:=h1 e (by simpa using he)
  simpa[hb]using this
 ·intro i hi
  have:=h2 i hi
  simp only[List.any_eq_true,Bool.and_eq_true,Bool.or_eq_true,beq_iff_eq,List.contains_iff_mem]at this
  obtain⟨e,he,hb,hor⟩:=this
  exact⟨e,by simpa using he,hb,hor⟩
 ·intro i hi oi ho
  have:=h3 i hi
  simp only[ho,Bool.or_eq_true,List.any_eq_true,Bool.and_eq_true,beq_iff_eq,List.contains_iff_mem]at this
  rcases this with⟨e,he,hb,hor⟩|⟨ha,hor⟩
  ·exact .inl ⟨e,by simpa using he,hb,hor⟩
  ·exact .inr ⟨ha,by rcases hor with((h|h)|h)|h;exact .inl h;exact .inr (.inl h);exact .inr (.inr (.inl h));exact .inr (.inr (.inr h))⟩
 ·intro hci hix
  simp only[hox,Bool.or_eq_true,Bool.not_eq_true',Bool.and_eq_false_iff,decide_eq_false_iff_not,Bool.and_eq_true]at h5
  rcases h5 with(h5|h5)|h5
  ·exact absurd hci h5
  ·exact absurd hix h5
  ·exact h5
 ·intro KZ hjc
  simp only[Bool.or_eq_true,beq_iff_eq,List.contains_iff_mem]at h4
  rcases h4 with((h4|h4)|h4)|h4
  ·exact absurd h4 KZ
  ·exact absurd h4 hjc
  ·exact .inl h4
  ·exact .inr h4
def pick(l:List Oper):List Nat→List Oper
 | []=>[]
 |i::is=>match l[i]? with|some o=>o::pick l is|none=>pick l is
theorem Gy(l:List Oper):∀is,pick l is=is.filterMap (l.toArray[·]?)
 | []=>rfl
 |i::is=>by
  rw[pick,Gy l is]
  cases h:l[i]? with
  |none=>rw[List.filterMap_cons_none (by simpa using h)]
  |some o=>rw[List.filterMap_cons_some (by simpa using h)]
theorem ahs(l:List Oper):(List.range l.toArray.size).filterMap (l.toArray[·]?)=l:=by
 have:∀n,(List.range n).filterMap (fun i=>l.toArray[i]?)=l.take n:=by
  intro n
  induction n with
  |zero=>simp
  |succ n ih=>
   rw[List.range_succ,List.filterMap_append,ih]
   by_cases hn:n<l.length
   ·rw[List.take_succ_eq_append_getElem hn];simp[hn]
   ·simp[hn,List.take_of_length_le (show l.length≤n by omega),List.take_of_length_le (show l.length≤n+1 by omega)]
 rw[this];simp
theorem UH{id:Nat}{Q':Exit→Act→World→Prop}{a:Act}{w:World}{l:List Oper}(S:World→Prop)(st:Oper→Bool)(x c:Nat)(idx:List Nat)(hm:P.follows .mixedOrders=true)(hB:Dn st l.toArray x c=true)(hi:mv x c (List.range l.toArray.size)=idx)
  (hS:S w.drew) (h:aH P l.toArray st S (fun a' w'=>Q' .normal a' w') l a w.drew) (h2:aH P l.toArray st S (fun a' w'=>Q' .normal a' w') (pick l idx) a w.drew):(Code.region id l.toArray true).wp P Q' a w:=by
 refine wp_region_any hm ?_
 exact ahq (P:=P) (S:=S) (Q:=fun a' w'=>Q' .normal a' w') (ahr hB) (Q':=Q') (fun _ _ h=>h) l.toArray.size (List.range l.toArray.size) (Array.replicate l.toArray.size false) a w.drew
  (by simp) List.pairwise_lt_range (by simp) (by intro j;simp;intro h;simp[h]) (by intro k o hk hkl;exfalso;rw[Array.getD_eq_getD_getElem?,Array.getElem?_replicate]at hkl;split at hkl<;>simp at hkl) hS (by rw[ahs];exact h) (fun _ _=>by rw[hi,←Gy];exact h2)
end
end Go.WW
namespace Go.WW
open Go.RowKit
theorem aJ{X w3:World}{k:Nat}{o:Obj}(hb3:Below X.heap.size X w3)(hX:X.heap[k]?=some o):w3.heap[k]?=some o:=(hb3.block k (Array.getElem?_eq_some_iff.1 hX).1).trans hX
end Go.WW
namespace Go.Proofs.YtfieenjdcpjmgaaGreatDoor
open Go.RowKit Go.WW
end Go.Proofs.YtfieenjdcpjmgaaGreatDoor
namespace Go.WW
open Go.RowKit
def ve(fails last:Int):Entry:={aQ with name:=⟨[⟨#[97]⟩],⟨#[82]⟩⟩,fails:=fails,fD:=last}
def La(fails:Int):ai:=⟨⟨#[112]⟩,1,1,0,0,0,0,fails,100,50⟩
def apV(w:World)(e:Ending)(w':World):Prop:=∃r,e=.returned (.tuple #[.agg (ae r (ve 0 0)),.agg (aC (La 3))])∧Below w.heap.size w w'∧bH w' (fresh w.heap.size w') (fun x=>bK x r (ve 0 0))
end Go.WW
namespace Go.Proofs.YtfieenjdcpjmgaaGreatDoor
open Go.RowKit Go.WW
theorem aht(ρ:Operand→Value)(dst:Option Tmp)(x:Operand)(ty:TypeId)(pos:String)(after:Array Edge)(guard:Option (Nat×Bool)):execOp ρ {dst,op:=.build 47 #[(0,x)],type:=ty,pos,after,guard}=iq 47 #[(0,ρ x)]:=by simp[execOp,iq]
theorem ahu(w:World)(g cap:Nat):(iq 47 #[(0,.agg #[.slice (some ⟨g,0,none⟩) 1 cap,.string ⟨#[82]⟩])]).run Tryz.prog w=.ok (.value (.agg (ae {aW with parts:=⟨some ⟨g,0,none⟩,cap⟩} (ve 0 0)))) w:=by kernel_rfl
theorem ahv(w:World):(iq 50 #[(0,.string ⟨#[112]⟩),(1,.int .i64 1),(2,.int .i64 1),(7,.int .i64 3),(8,.int .i64 100),(9,.int .i64 50)]).run Tryz.prog w=.ok (.value (.agg (aC (La 3)))) w:=by kernel_rfl
attribute [go_sem] ahu ahv
attribute [go_sem ↓] aht
structure bU(w:World)(b n e p:Nat)(re:ByteArray)(s:Int)(N:List (ByteArray×Value))(E:List EE)(P:List ai):Prop where
 box:w.heap[b]?=some (.cells (lI re s n e p) 90)
 nm:MapOf w n N
 em:MapOf w e (E.map fun x=>(textOf x.2.name,Value.agg (cu x)))
 pm:MapOf w p (P.map fun q=>(q.name,Value.agg (aC q)))
 ne:n≠e∧n≠p∧e≠p
theorem fM{w:World}{b n:Nat}{c:Array Value}{t:TypeId}{m:List (ByteArray×Value)}(h:w.heap[b]?=some (.cells c t))(hm:MapOf w n m):b≠n:=by
 rintro rfl
 obtain⟨es,clock,h1,_⟩:=hm
 rw[h]at h1;cases h1
theorem bU.later{w w':World}{b n e p:Nat}{re:ByteArray}{s:Int}{N:List (ByteArray×Value)}{E:List EE}{P:List ai}(h:bU w b n e p re s N E P)(hb:Below w.heap.size w w'):bU w' b n e p re s N E P:=
 ⟨aJ hb h.box,h.nm.at (hb.block n h.nm.lt),h.em.at (hb.block e h.em.lt),h.pm.at (hb.block p h.pm.lt),h.ne⟩
theorem Lc(w:World)(b:Nat)(clock:Nat)(h:w.heap[b]?=some (.map #[] clock)):MapOf w b []:=⟨#[],clock,h,by simp,by simp,by simp,by simp⟩
theorem Ld(re:ByteArray)(w:World)(hs:re.size≤lim)(hok:gU re=true):Calls Tryz.prog 7 #[.string re] w fun x w'=>∃b n e p,x=.returned (.tuple #[.pointer (some ⟨b,0,none⟩),.int .i64 0])∧Below w.heap.size w w'∧bU w' b n e p re 0 [] [] []∧w.heap.size≤b∧w.heap.size≤n∧w.heap.size≤e∧w.heap.size≤p:=by
 have hR:=JS re w hs
 rw[hok]at hR
 have HR:=Lib.hid hR
 clear hR
 have hmm:=@run_makeMap Tryz.prog
 go_enter Tryz.func7,Tryz.ntmps7
 go_wp2_with fail
 refine HR.out.mono ?_
 rintro x w1 ⟨rfl,hb1⟩
 dsimp only
 go_wp2_with fail
 have hs1:=hb1.size
 refine bodyPost_ret (results_tmp2 (by rfl) _ _ _) rfl ⟨w1.heap.size+1+1+1,w1.heap.size,w1.heap.size+1,w1.heap.size+1+1,rfl,?_,⟨?_,?_,?_,?_,by omega⟩,by omega,by omega,by omega,by omega⟩
 ·exact ag hb1 (((((Below.refl _ w1).alloc (Nat.le_refl _) _).alloc (by simp) _).alloc (by simp;omega) _).alloc (by simp;omega) _)
 ·have:=World.alloc_heap_new (((w1.alloc (.map #[] 0)).alloc (.map #[] 0)).alloc (.map #[] 0)) (.cells (lI re 0 w1.heap.size (w1.heap.size+1) (w1.heap.size+1+1)) 90)
  rw[show(((w1.alloc (.map #[] 0)).alloc (.map #[] 0)).alloc (.map #[] 0)).heap.size=w1.heap.size+1+1+1 by simp]at this
  exact this
 ·refine Lc _ _ 0 ?_
  rw[Below.heap_alloc _ _ _ (by simp;omega),Below.heap_alloc _ _ _ (by simp;omega),Below.heap_alloc _ _ _ (by simp)];exact World.alloc_heap_new _ _
 ·refine Lc _ _ 0 ?_
  rw[Below.heap_alloc _ _ _ (by first|(simp;done)|(simp;omega)),Below.heap_alloc _ _ _ (by first|(simp;done)|(simp;omega))]
  have:=World.alloc_heap_new (w1.alloc (.map #[] 0)) (.map #[] 0);simpa using this
 ·refine Lc _ _ 0 ?_
  rw[Below.heap_alloc _ _ _ (by simp)]
  have:=World.alloc_heap_new ((w1.alloc (.map #[] 0)).alloc (.map #[] 0)) (.map #[] 0);simpa using this
theorem dO{w:World}{b n e p:Nat}{re:ByteArray}{s:Int}(h:w.heap[b]?=some (.cells (lI re s n e p) 90)):w.cell? ⟨b,0,none⟩=some (.string re)∧w.cell? ⟨b,1,none⟩=some (.int .i64 s)∧w.cell? ⟨b,2,none⟩=some (.map (some n))∧w.cell? ⟨b,3,none⟩=some (.map (some e))∧w.cell? ⟨b,4,none⟩=some (.map (some p))∧w.frozen? ⟨b,1,none⟩=false∧b<w.heap.size:=by
 obtain⟨hc,hf,_,hl⟩:=aB h
 exact⟨hc 0,hc 1,hc 2,hc 3,hc 4,hf 1,hl⟩
theorem Dp{w:World}{p:Nat}{P:List ai}(h:MapOf w p (P.map fun q=>(q.name,Value.agg (aC q))))(q:ai)(hq:q∈P):(Instr.lookup 86 (.map (some p)) (.string q.name) true).run Tryz.prog w=.ok (.tuple #[.agg (aC q),.bool true]) w:=by
 have:=Gq (P:=Tryz.prog) true Tryz.underlying86 Tryz.underlying9 h (List.mem_map.2 ⟨q,hq,rfl⟩)
 simpa using this
theorem ahw(b n e p:Nat)(re:ByteArray)(s:Int)(N:List (ByteArray×Value))(E:List EE)(P:List ai)(q:ai)(w:World)(h:bU w b n e p re s N E P)(hre:¬re=⟨#[]⟩)(hq:q∈P):Calls Tryz.prog 41 #[.pointer (some ⟨b,0,none⟩),.string q.name] w fun x w'=>x=.returned (.tuple #[.agg (aC q),.int .i64 0])∧Below w.heap.size w w':=by
 have hB:Below w.heap.size w (w.alloc (.cells #[.string ⟨#[]⟩,.int .i64 0,.int .i64 0,.int .i64 0,.int .i64 0,.int .i64 0,.int .i64 0,.int .i64 0,.int .i64 0,.int .i64 0] 50)):=(Below.refl _ _).alloc (Nat.le_refl _) _
 have h':=h.later hB
 have hz:aS (w.alloc (.cells #[.string ⟨#[]⟩,.int .i64 0,.int .i64 0,.int .i64 0,.int .i64 0,.int .i64 0,.int .i64 0,.int .i64 0,.int .i64 0,.int .i64 0] 50)) w.heap.size 0 10=true:=by simp[go_sem]
 have hW:w.heap.size<(w.alloc (.cells #[.string ⟨#[]⟩,.int .i64 0,.int .i64 0,.int .i64 0,.int .i64 0,.int .i64 0,.int .i64 0,.int .i64 0,.int .i64 0,.int .i64 0] 50)).heap.size:=by simp
 go_enter Tryz.func41,Tryz.ntmps41
 go_wp2_with fail
 generalize (w.alloc (.cells #[.string ⟨#[]⟩,.int .i64 0,.int .i64 0,.int .i64 0,.int .i64 0,.int .i64 0,.int .i64 0,.int .i64 0,.int .i64 0,.int .i64 0] 50))=W at *
 obtain⟨c0,c1,c2,c3,c4,f1,hl⟩:=dO h'.box
 have hlk:=Dp h'.pm q hq
 refine(jo _ _ _ c0 hre).mono ?_
 rintro x w' ⟨rfl,rfl⟩
 have hne:W.heap.size≠w.heap.size:=by omega
 dsimp only
 go_wp2_with fail
 have hrow:=iO (w:=W.alloc (.cells (aC q) 50)) (wL q) ((JC hW).trans hz)
 exact bodyPost_ret (jE (by rfl) Tryz.underlying50 rfl (by kernel_rfl) rfl hrow) rfl ⟨rfl,Go.WW.Below.putRow (hB.alloc hB.size _) (by omega)⟩
end Go.Proofs.YtfieenjdcpjmgaaGreatDoor
namespace Go.WW
open Go.RowKit
def jX:ai:=⟨⟨#[]⟩,0,0,0,0,0,0,0,0,0⟩
theorem yE{P:Program}{w:World}{b:Nat}{m:List (ByteArray×Value)}{mty kt et ty:TypeId}{nJ:Array TypeId}(ht:nJ[0]?=some mty)(hm:P.underlying mty=some (.map kt et))(h:MapOf w b m):(Builtin.len_ nJ ty #[.map (some b)]).run P w=.ok (.int .i64 (m.length:Int)) w:=by
 obtain⟨es,clock,hb,hes⟩:=h.len
 simp[Builtin.len_,ht,run_underlying hm,MapKept.run_getObj_map hb,Result.andThen,goInt,hes]
def qi(P:List ai)(q:ai):List ai:=if P.any (fun x=>decide (x.name=q.name))=true then P.map (fun x=>if x.name=q.name then q else x)else P++[q]
theorem UI(P:List ai)(q:ai):oh (P.map fun x=>(x.name,Value.agg (aC x))) q.name (.agg (aC q))=(qi P q).map fun x=>(x.name,Value.agg (aC x)):=by
 have h:hasK (P.map fun x=>(x.name,Value.agg (aC x))) q.name=P.any (fun x=>decide (x.name=q.name)):=by
  unfold hasK;rw[List.any_map];rfl
 unfold oh qi
 rw[h]
 split
 ·rw[List.map_map,List.map_map]
  refine List.map_congr_left fun x _=>?_
  simp only[Function.comp]
  split<;>rfl
 ·simp
end Go.WW
namespace Go.Proofs.YtfieenjdcpjmgaaGreatDoor
open Go.RowKit Go.WW
theorem Dq{w:World}{p:Nat}{P:List ai}(h:MapOf w p (P.map fun q=>(q.name,Value.agg (aC q))))(k:ByteArray)(hq:P.any (fun x=>decide (x.name=k))=false):(Instr.lookup 86 (.map (some p)) (.string k) true).run Tryz.prog w=.ok (.tuple #[.agg (aC jX),.bool false]) w:=by
 have hn:k∉(P.map fun q=>(q.name,Value.agg (aC q))).map (·.1):=by
  intro hk
  rw[List.map_map]at hk
  obtain⟨x,hx,e⟩:=List.mem_map.1 hk
  have:=List.any_eq_false.1 hq x hx
  simp only[Function.comp]at e
  simp[e]at this
 have:=Gs (P:=Tryz.prog) (z:=.agg (aC jX)) true Tryz.underlying86 Tryz.underlying9 h (by kernel_rfl) hn
 simpa using this
def aZ(b n e p:Nat):Nat→Prop:=fun k=>k=b∨k=n∨k=e∨k=p
theorem ahx(b n e p:Nat)(re:ByteArray)(s:Int)(N:List (ByteArray×Value))(E:List EE)(P:List ai)(q:ai)(w:World)(h:bU w b n e p re s N E P)(hre:¬re=⟨#[]⟩)(hs:q.name.size≤lim)(hv:dP q=false):Calls Tryz.prog 29 #[.pointer (some ⟨b,0,none⟩),.agg (aC q)] w fun x w'=>x=.returned (.int .i64 2)∧Below w.heap.size w w':=by
 have hB:Below w.heap.size w (w.alloc (.cells (aC q) 50)):=(Below.refl _ _).alloc (Nat.le_refl _) _
 have h':=h.later hB
 have hx3:(w.alloc (.cells (aC q) 50)).heap[w.heap.size]?=some (.cells (aC q) 50):=World.alloc_heap_new _ _
 go_enter Tryz.func29,Tryz.ntmps29
 go_wp2_with fail
 generalize (w.alloc (.cells (aC q) 50))=W at *
 obtain⟨c0,c1,c2,c3,c4,f1,hl⟩:=dO h'.box
 obtain⟨hc,hf,hr,hlt⟩:=aB hx3
 refine(jo _ _ _ c0 hre).mono ?_
 rintro x w' ⟨rfl,rfl⟩
 dsimp only
 go_wp2_with fail
 refine(FO _ _ hs).mono ?_
 rintro x w2 ⟨rfl,hb2⟩
 rw[hv]
 dsimp only
 go_wp2_with fail
 go_ret
 exact⟨rfl,ag hB hb2⟩
theorem ahy(b n e p:Nat)(re:ByteArray)(s:Int)(N:List (ByteArray×Value))(E:List EE)(P:List ai)(q:ai)(w:World)(h:bU w b n e p re s N E P)(hre:¬re=⟨#[]⟩)(hs:q.name.size≤lim)(hv:dP q=true)(hP:P.any (fun x=>decide (x.name=q.name))=false)(hn:P.length<64)(hs0:0≤s)(hs1:s<1000000):Calls Tryz.prog 29 #[.pointer (some ⟨b,0,none⟩),.agg (aC q)] w fun x w'=>x=.returned (.int .i64 0)∧But (aZ b n e p) w w'∧bU w' b n e p re (s+1) N E (qi P q):=by
 have hB:Below w.heap.size w (w.alloc (.cells (aC q) 50)):=(Below.refl _ _).alloc (Nat.le_refl _) _
 have h':=h.later hB
 have hx3:(w.alloc (.cells (aC q) 50)).heap[w.heap.size]?=some (.cells (aC q) 50):=World.alloc_heap_new _ _
 go_enter Tryz.func29,Tryz.ntmps29
 go_wp2_with fail
 generalize (w.alloc (.cells (aC q) 50))=W at *
 obtain⟨c0,c1,c2,c3,c4,f1,hl⟩:=dO h'.box
 obtain⟨hc,hf,hr,hlt⟩:=aB hx3
 refine(jo _ _ _ c0 hre).mono ?_
 rintro x w' ⟨rfl,rfl⟩
 dsimp only
 go_wp2_with fail
 refine(FO _ _ hs).mono ?_
 rintro x w2 ⟨rfl,hb2⟩
 rw[hv]
 have h2:=h'.later hb2
 have hx32:=aJ hb2 hx3
 clear c0 c1 c2 c3 c4 f1 hl hc hf hr hlt
 obtain⟨c0,c1,c2,c3,c4,f1,hl⟩:=dO h2.box
 obtain⟨hc,hf,hr,hlt⟩:=aB hx32
 have hlk:∀x:Later w2,(Instr.lookup 86 (.map (some p)) (.string q.name) true).run Tryz.prog x.w=.ok (.tuple #[.agg (aC jX),.bool false]) x.w:=fun x=>Dq (h2.pm.at (x.b.block p h2.pm.lt)) _ hP
 dsimp only
 go_wp2_with fail
 refine wW (Below.refl _ w2) (by kernel_rfl) (by kernel_rfl) ?_
 intro w3 hb3
 repeat (first|(refine ax (by rfl) ?_)|(refine aP (by rfl) (by rfl) (fun K hK=>?_);go_big_quiet_op;refine hK _ ?_;clear hK K))
 refine aU (by rfl) (by rfl) (fun K hK=>?_)
 go_wp2_with fail
 refine hK _ _ (aA (aj hb3 _)) ?_
 clear hK K
 repeat (first|(refine ax (by rfl) ?_)|(refine aP (by rfl) (by rfl) (fun K hK=>?_);go_big_quiet_op;refine hK _ ?_;clear hK K))
 refine aU (by rfl) (by rfl) (fun K hK=>?_)
 go_wp2_with fail
 refine hK _ _ (aA (aj hb3 (.cells (aC jX) 50))) ?_
 clear hK K
 repeat (first|(refine ax (by rfl) ?_)|(refine aP (by rfl) (by rfl) (fun K hK=>?_);go_big_quiet_op;refine hK _ ?_;clear hK K))
 refine bV ?_
 have hb4:=aj hb3 (.cells (aC jX) 50)
 clear hb3 hlk
 generalize (w3.alloc (.cells (aC jX) 50))=V at *
 have h4:=h2.later hb4
 have hx34:=aJ hb4 hx32
 clear c0 c1 c2 c3 c4 f1 hl hc hf hr hlt
 obtain⟨c0,c1,c2,c3,c4,f1,hl⟩:=dO h4.box
 obtain⟨hc,hf,hr,hlt⟩:=aB hx34
 have hln:=yE (P:=Tryz.prog) (ty:=3) (nJ:=#[86]) rfl Tryz.underlying86 h4.pm
 rw[List.length_map]at hln
 have h64:¬(64:Int)≤(P.length:Int):=by omega
 have hbp:b≠p:=fM h4.box h4.pm
 have hwp:w.heap.size≠p:=fM hx34 h4.pm
 have nb:=bu hbp
 have nw:=bu hwp
 obtain⟨U,hrun,rC,eH,UJ⟩:=AA (P:=Tryz.prog) (k:=q.name) (v:=.agg (aC q)) (w:=V.drew) Tryz.underlying86 Tryz.underlying9 (h4.pm.at rfl)
 rw[UI]at rC
 have rE:But (one p) V U:=⟨eH.os,eH.tape,eH.output,eH.size,eH.block⟩
 go_wp2_with fail
 refine oZ (one p) (But.refl _ V) (by kernel_rfl) (by kernel_rfl) ?_
 repeat (first|(refine ax (by rfl) ?_)|(refine aP (by rfl) (by rfl) (fun K hK=>?_);go_big_quiet_op;refine hK _ ?_;clear hK K))
 refine aU (by rfl) (by rfl) (fun K hK=>?_)
 go_wp2_with fail
 refine hK _ _ (dw rE) ?_
 clear hK K
 repeat (first|(refine ax (by rfl) ?_)|(refine aP (by rfl) (by rfl) (fun K hK=>?_);go_big_quiet_op;refine hK _ ?_;clear hK K))
 refine bV ?_
 have jY:U.heap[b]?=some (.cells (lI re s n e p) 90):=(rE.block b hl nb).trans h4.box
 obtain⟨o9,vg,tV,Gz⟩:=aB jY
 have hc91:=o9 1
 have vk:=vg 1
 go_wp2_with fail
 refine(wX b s U hc91 vk hs0 hs1).mono ?_
 rintro x w' ⟨rfl,rfl⟩
 dsimp only
 go_wp2_with fail
 go_ret
 have hnb:n≠b:=fun e'=>fM h4.box h4.nm e'.symm
 have heb:e≠b:=fun e'=>fM h4.box h4.em e'.symm
 refine⟨rfl,?_,⟨?_,?_,?_,?_,h.ne⟩⟩
 ·have jf:=ag (ag hB hb2) hb4
  refine⟨eH.os.trans jf.os,eH.tape.trans jf.tape,eH.output.trans jf.output,?_,fun k hk hn'=>?_⟩
  ·show w.heap.size≤(U.setCell ⟨b,1,none⟩ (.int .i64 (s+1))).heap.size
   have:=jf.size
   have:=eH.size
   simp only[World.setCell,Array.size_modify]
   exact Nat.le_trans ‹w.heap.size≤V.heap.size› ‹_›
  ·rw[Below.heap_setCell _ _ _ _ (show k≠b from fun e'=>hn' (.inl e')),rE.block k (Nat.lt_of_lt_of_le hk jf.size) (bu (fun e'=>hn' (.inr (.inr (.inr e'))))),jf.block k hk]
 ·rw[dI _ jY,uY]
 ·exact h4.nm.at ((Below.heap_setCell _ _ _ _ hnb).trans (rE.block n h4.nm.lt (bu h.ne.2.1)))
 ·exact h4.em.at ((Below.heap_setCell _ _ _ _ heb).trans (rE.block e h4.em.lt (bu h.ne.2.2)))
 ·exact rC.at (Below.heap_setCell _ _ _ _ (Ne.symm hbp))
theorem ahz(b n e p:Nat)(re:ByteArray)(s:Int)(N:List (ByteArray×Value))(E:List EE)(P:List ai)(q:ai)(w:World)(h:bU w b n e p re s N E P)(hre:¬re=⟨#[]⟩)(hs:q.name.size≤lim)(hv:dP q=true)(q0:ai)(hq0:q0∈P)(hnm:q0.name=q.name)(hs0:0≤s)(hs1:s<1000000):Calls Tryz.prog 29 #[.pointer (some ⟨b,0,none⟩),.agg (aC q)] w fun x w'=>x=.returned (.int .i64 0)∧But (aZ b n e p) w w'∧bU w' b n e p re (s+1) N E (qi P q):=by
 have hB:Below w.heap.size w (w.alloc (.cells (aC q) 50)):=(Below.refl _ _).alloc (Nat.le_refl _) _
 have h':=h.later hB
 have hx3:(w.alloc (.cells (aC q) 50)).heap[w.heap.size]?=some (.cells (aC q) 50):=World.alloc_heap_new _ _
 go_enter Tryz.func29,Tryz.ntmps29
 go_wp2_with fail
 generalize (w.alloc (.cells (aC q) 50))=W at *
 obtain⟨c0,c1,c2,c3,c4,f1,hl⟩:=dO h'.box
 obtain⟨hc,hf,hr,hlt⟩:=aB hx3
 refine(jo _ _ _ c0 hre).mono ?_
 rintro x w' ⟨rfl,rfl⟩
 dsimp only
 go_wp2_with fail
 refine(FO _ _ hs).mono ?_
 rintro x w2 ⟨rfl,hb2⟩
 rw[hv]
 have h2:=h'.later hb2
 have hx32:=aJ hb2 hx3
 clear c0 c1 c2 c3 c4 f1 hl hc hf hr hlt
 obtain⟨c0,c1,c2,c3,c4,f1,hl⟩:=dO h2.box
 obtain⟨hc,hf,hr,hlt⟩:=aB hx32
 have hlk:∀x:Later w2,(Instr.lookup 86 (.map (some p)) (.string q.name) true).run Tryz.prog x.w=.ok (.tuple #[.agg (aC q0),.bool true]) x.w:=fun x=>hnm▸Dp (h2.pm.at (x.b.block p h2.pm.lt)) q0 hq0
 dsimp only
 go_wp2_with fail
 refine wW (Below.refl _ w2) (by kernel_rfl) (by kernel_rfl) ?_
 intro w3 hb3
 repeat (first|(refine ax (by rfl) ?_)|(refine aP (by rfl) (by rfl) (fun K hK=>?_);go_big_quiet_op;refine hK _ ?_;clear hK K))
 refine aU (by rfl) (by rfl) (fun K hK=>?_)
 go_wp2_with fail
 refine hK _ _ (aA (aj hb3 _)) ?_
 clear hK K
 repeat (first|(refine ax (by rfl) ?_)|(refine aP (by rfl) (by rfl) (fun K hK=>?_);go_big_quiet_op;refine hK _ ?_;clear hK K))
 refine aU (by rfl) (by rfl) (fun K hK=>?_)
 go_wp2_with fail
 refine hK _ _ (aA (aj hb3 (.cells (aC q0) 50))) ?_
 clear hK K
 repeat (first|(refine ax (by rfl) ?_)|(refine aP (by rfl) (by rfl) (fun K hK=>?_);go_big_quiet_op;refine hK _ ?_;clear hK K))
 refine bV ?_
 have hb4:=aj hb3 (.cells (aC q0) 50)
 clear hb3 hlk
 generalize (w3.alloc (.cells (aC q0) 50))=V at *
 have h4:=h2.later hb4
 have hx34:=aJ hb4 hx32
 clear c0 c1 c2 c3 c4 f1 hl hc hf hr hlt
 obtain⟨c0,c1,c2,c3,c4,f1,hl⟩:=dO h4.box
 obtain⟨hc,hf,hr,hlt⟩:=aB hx34
 have hbp:b≠p:=fM h4.box h4.pm
 have hwp:w.heap.size≠p:=fM hx34 h4.pm
 have nb:=bu hbp
 have nw:=bu hwp
 obtain⟨U,hrun,rC,eH,UJ⟩:=AA (P:=Tryz.prog) (k:=q.name) (v:=.agg (aC q)) (w:=V.drew) Tryz.underlying86 Tryz.underlying9 (h4.pm.at rfl)
 rw[UI]at rC
 have rE:But (one p) V U:=⟨eH.os,eH.tape,eH.output,eH.size,eH.block⟩
 go_wp2_with fail
 refine oZ (one p) (But.refl _ V) (by kernel_rfl) (by kernel_rfl) ?_
 repeat (first|(refine ax (by rfl) ?_)|(refine aP (by rfl) (by rfl) (fun K hK=>?_);go_big_quiet_op;refine hK _ ?_;clear hK K))
 refine aU (by rfl) (by rfl) (fun K hK=>?_)
 go_wp2_with fail
 refine hK _ _ (dw rE) ?_
 clear hK K
 repeat (first|(refine ax (by rfl) ?_)|(refine aP (by rfl) (by rfl) (fun K hK=>?_);go_big_quiet_op;refine hK _ ?_;clear hK K))
 refine bV ?_
 have jY:U.heap[b]?=some (.cells (lI re s n e p) 90):=(rE.block b hl nb).trans h4.box
 obtain⟨o9,vg,tV,Gz⟩:=aB jY
 have hc91:=o9 1
 have vk:=vg 1
 go_wp2_with fail
 refine(wX b s U hc91 vk hs0 hs1).mono ?_
 rintro x w' ⟨rfl,rfl⟩
 dsimp only
 go_wp2_with fail
 go_ret
 have hnb:n≠b:=fun e'=>fM h4.box h4.nm e'.symm
 have heb:e≠b:=fun e'=>fM h4.box h4.em e'.symm
 refine⟨rfl,?_,⟨?_,?_,?_,?_,h.ne⟩⟩
 ·have jf:=ag (ag hB hb2) hb4
  refine⟨eH.os.trans jf.os,eH.tape.trans jf.tape,eH.output.trans jf.output,?_,fun k hk hn'=>?_⟩
  ·show w.heap.size≤(U.setCell ⟨b,1,none⟩ (.int .i64 (s+1))).heap.size
   have:=jf.size
   have:=eH.size
   simp only[World.setCell,Array.size_modify]
   exact Nat.le_trans ‹w.heap.size≤V.heap.size› ‹_›
  ·rw[Below.heap_setCell _ _ _ _ (show k≠b from fun e'=>hn' (.inl e')),rE.block k (Nat.lt_of_lt_of_le hk jf.size) (bu (fun e'=>hn' (.inr (.inr (.inr e'))))),jf.block k hk]
 ·rw[dI _ jY,uY]
 ·exact h4.nm.at ((Below.heap_setCell _ _ _ _ hnb).trans (rE.block n h4.nm.lt (bu h.ne.2.1)))
 ·exact h4.em.at ((Below.heap_setCell _ _ _ _ heb).trans (rE.block e h4.em.lt (bu h.ne.2.2)))
 ·exact rC.at (Below.heap_setCell _ _ _ _ (Ne.symm hbp))
end Go.Proofs.YtfieenjdcpjmgaaGreatDoor
namespace Go.WW
def GG(x y:Int):Int:=if x=0 then y else x
end Go.WW
namespace Go.Proofs.YtfieenjdcpjmgaaGreatDoor
open Go.RowKit Go.WW
theorem Le(a:ByteArray)(w:World):Calls Tryz.prog 275 #[.string a] w fun e w'=>e=.returned (.bool false)∧w=w':=by
 have h:=str_eq a a rfl
 go_enter Tryz.func275,Tryz.ntmps275
 go_wp2
 go_ret
 exact⟨rfl,rfl⟩
theorem Lh(a b:ByteArray)(w:World):Calls Tryz.prog 194 #[.string a,.string b] w fun e w'=>e=.returned (.int .i64 (dD a b))∧w=w':=by
 cases h:Op.bytesLess a.toList b.toList
 ·by_cases he:a=b
  ·have he':=str_eq _ _ he
   have HN:=Lib.hid (show dD a b=0 by subst he;exact KI a)
   clear he
   go_enter Tryz.func194,Tryz.ntmps194
   go_wp2_with (go_at_call 275;refine(Le _ _).mono ?_;rintro e w' ⟨rfl,rfl⟩)
   go_ret
   exact⟨by rw[HN.out];rfl,rfl⟩
  ·have he':=lu _ _ he
   have HN:=Lib.hid (KH h he)
   clear he
   go_enter Tryz.func194,Tryz.ntmps194
   go_wp2_with (go_at_call 275;refine(Le _ _).mono ?_;rintro e w' ⟨rfl,rfl⟩)
   go_ret
   exact⟨by rw[HN.out];rfl,rfl⟩
 ·have HN:=Lib.hid (KG h)
  go_enter Tryz.func194,Tryz.ntmps194
  go_wp2_with (go_at_call 275;refine(Le _ _).mono ?_;rintro e w' ⟨rfl,rfl⟩)
  go_ret
  exact⟨by rw[HN.out];rfl,rfl⟩
theorem UK(a a':Option Addr)(cap cap':Nat)(m:List ByteArray)(w:World):Calls Tryz.prog 195 #[.slice a 0 cap,.slice a' m.length cap'] w fun e w'=>e=.returned (.int .i64 (og [] m))∧w=w':=by
 cases m with
 |nil=>
  go_enter Tryz.func195,Tryz.ntmps195
  go_wp2
  refine wp_loop_rounds 1 ?_
  rw[rounds_succ]
  go_wp2
  go_ret
  exact⟨rfl,rfl⟩
 |cons x m=>
  have h1:(0:Int)<((x::m).length:Int):=by simp
  generalize hn:(x::m).length=n at *
  go_enter Tryz.func195,Tryz.ntmps195
  go_wp2
  refine wp_loop_rounds 1 ?_
  rw[rounds_succ]
  go_wp2
  go_ret
  exact⟨rfl,rfl⟩
theorem ahA(a a':Option Addr)(cap cap':Nat)(l m:List ByteArray)(w:World)(hl:kH w a l)(hm:kH w a' m):Calls Tryz.prog 195 #[.slice a l.length cap,.slice a' m.length cap'] w fun e w'=>e=.returned (.int .i64 (og l m))∧w=w':=by
 have hn:l.length≤4294967000:=hl.1
 have hn':m.length≤4294967000:=hm.1
 rcases dY.addr hl with h0|⟨b,o,rfl,hb⟩
 ·obtain rfl:l=[]:=List.eq_nil_of_length_eq_zero h0
  exact UK a a' cap cap' m w
 rcases dY.addr hm with h0|⟨b',o',rfl,hb'⟩
 ·obtain rfl:m=[]:=List.eq_nil_of_length_eq_zero h0
  cases l with
  |nil=>exact UK _ a' cap cap' [] w
  |cons x l=>
   have hc:w.cell? ⟨b,o,none⟩=some (.string x):=by have:=(kH.at hl 0 (by simp)).1;simpa using this
   have h1:(0:Int)<((x::l).length:Int):=by simp
   have HN:=Lib.hid (show og (x::l) []=1 from rfl)
   generalize hnn:(x::l).length=n at *
   go_enter Tryz.func195,Tryz.ntmps195
   go_wp2
   refine wp_loop_rounds 1 ?_
   rw[rounds_succ]
   go_wp2
   go_ret
   exact⟨by rw[HN.out];rfl,rfl⟩
 go_enter Tryz.func195,Tryz.ntmps195
 go_wp2
 go_loop [11] (fun i=>∃k:Nat,k≤l.length∧k≤m.length∧i=.int .i64 k∧Hid (og l m=og (l.drop k) (m.drop k))) (fun i=>l.length-(intOf i).toNat)
 case atStart=>exact⟨0,Nat.zero_le _,Nat.zero_le _,rfl,rfl⟩
 case round=>
  obtain⟨k,hk,hk2,rfl,hall⟩:=hrel
  by_cases hlt:k<l.length
  ·have hki:(k:Int)<(l.length:Int):=by omega
   have hc:=(kH.at hl k hlt).1
   by_cases hlm:k<m.length
   ·have jK:(k:Int)<(m.length:Int):=by omega
    have hc':=(kH.at hm k hlm).1
    have hst:og l m=if dD l[k] m[k]=0 then og (l.drop (k+1)) (m.drop (k+1))else dD l[k] m[k]:=by
     rw[hall.out,List.drop_eq_getElem_cons hlt,List.drop_eq_getElem_cons hlm];rfl
    generalize l[k]=x at *
    generalize m[k]=y at *
    by_cases hz:dD x y=0
    ·rw[if_pos hz]at hst
     have HS:=Lib.hid hst
     have hz':(dD x y != 0)=false:=by simp[hz]
     clear hst hz hall
     go_wp2_with (go_at_call 194;refine(Lh _ _ _).mono ?_;rintro e w' ⟨rfl,rfl⟩)
     go_round
     case rel=>exact⟨k+1,by omega,by omega,by go_num,HS.out⟩
     case measure=>simp[intOf];omega
    ·rw[if_neg hz]at hst
     have HS:=Lib.hid hst
     have hz':(dD x y != 0)=true:=by simp[hz]
     clear hst hz hall
     go_wp2_with (go_at_call 194;refine(Lh _ _ _).mono ?_;rintro e w' ⟨rfl,rfl⟩)
     go_ret
     exact⟨by rw[HS.out];rfl,rfl⟩
   ·have HN:=Lib.hid (show og l m=1 by rw[hall.out,List.drop_eq_getElem_cons hlt,List.drop_of_length_le (show m.length≤k by omega)];rfl)
    have jK:(m.length:Int)≤(k:Int):=by omega
    go_wp2
    go_ret
    exact⟨by rw[HN.out];rfl,rfl⟩
  ·by_cases hlm:k<m.length
   ·have HN:=Lib.hid (show og l m=-1 by rw[hall.out,List.drop_of_length_le (show l.length≤k by omega),List.drop_eq_getElem_cons hlm];rfl)
    have h1:(l.length:Int)<(m.length:Int):=by omega
    go_wp2
    go_ret
    exact⟨by rw[HN.out];rfl,rfl⟩
   ·have HN:=Lib.hid (show og l m=0 by rw[hall.out,List.drop_of_length_le (show l.length≤k by omega),List.drop_of_length_le (show m.length≤k by omega)];rfl)
    have h1:¬(l.length:Int)<(m.length:Int):=by omega
    go_wp2
    go_ret
    exact⟨by rw[HN.out];rfl,rfl⟩
theorem ahB(g cap:Nat)(x y:Int)(w:World)(h0:w.cell? ⟨g,0,none⟩=some (.int .i64 x))(h1:w.cell? ⟨g,1,none⟩=some (.int .i64 y)):Calls Tryz.prog 193 #[.slice (some ⟨g,0,none⟩) 2 cap] w fun e w'=>e=.returned (.int .i64 (GG x y))∧w=w':=by
 by_cases hx:x=0
 ·subst hx
  have HN:=Lib.hid (show GG 0 y=y from rfl)
  by_cases hy:y=0
  ·subst hy
   go_enter Tryz.func193,Tryz.ntmps193
   go_wp2
   refine wp_loop_rounds 3 ?_
   rw[rounds_succ]
   go_wp2
   rw[rounds_succ]
   go_wp2
   rw[rounds_succ]
   go_wp2
   go_ret
   exact⟨rfl,rfl⟩
  ·have hy':(y != 0)=true:=by simp[hy]
   clear hy
   go_enter Tryz.func193,Tryz.ntmps193
   go_wp2
   refine wp_loop_rounds 3 ?_
   rw[rounds_succ]
   go_wp2
   rw[rounds_succ]
   go_wp2
   go_ret
   exact⟨by rw[HN.out];rfl,rfl⟩
 ·have hx':(x != 0)=true:=by simp[hx]
  have HN:=Lib.hid (show GG x y=x from if_neg hx)
  clear hx
  go_enter Tryz.func193,Tryz.ntmps193
  go_wp2
  refine wp_loop_rounds 3 ?_
  rw[rounds_succ]
  go_wp2
  go_ret
  exact⟨by rw[HN.out];rfl,rfl⟩
theorem ahC(s t:Sl)(p q:az)(w:World)(hp:bn w s p)(hq:bn w t q):Calls Tryz.prog 114 #[.agg (ah s p),.agg (ah t q)] w fun e w'=>e=.returned (.int .i64 (fE p q))∧Below w.heap.size w w':=by
 have hB:Below w.heap.size w ((w.alloc (.cells (ah s p) 40)).alloc (.cells (ah t q) 40)):=((Below.refl _ _).alloc (Nat.le_refl _) _).alloc (by simp) _
 have HN:=Lib.hid (show fE p q=GG (dD p.aG q.aG) (og p.parts q.parts) from rfl)
 go_enter Tryz.func114,Tryz.ntmps114
 go_wp2_with fail
 refine pW (Below.refl _ _) (by kernel_rfl) (by kernel_rfl) ?_
 intro w1 hb1
 repeat (first|(refine ax (by rfl) ?_)|(refine aI (by rfl) (by rfl) (fun K hK=>?_);go_big_quiet_op;refine hK _ ?_;clear hK K))
 refine aK (by rfl) (by rfl) (fun K hK=>?_)
 go_wp2_with fail
 refine(Lh _ _ _).mono ?_
 rintro e w' ⟨rfl,rfl⟩
 refine hK _ _ (aA hb1) ?_
 clear hK K
 repeat (first|(refine ax (by rfl) ?_)|(refine aI (by rfl) (by rfl) (fun K hK=>?_);go_big_quiet_op;refine hK _ ?_;clear hK K))
 refine aK (by rfl) (by rfl) (fun K hK=>?_)
 go_wp2_with fail
 refine(ahA _ _ _ _ _ _ _ (hp.1.later (ag hB hb1)) (hq.1.later (ag hB hb1))).mono ?_
 rintro e w' ⟨rfl,rfl⟩
 refine hK _ _ (aA hb1) ?_
 clear hK K
 repeat (first|(refine ax (by rfl) ?_)|(refine aI (by rfl) (by rfl) (fun K hK=>?_);go_big_quiet_op;refine hK _ ?_;clear hK K))
 refine aK (by rfl) (by rfl) (fun K hK=>?_)
 go_wp2_with fail
 refine hK _ _ (aA (aj hb1 _)) ?_
 clear hK K
 repeat (first|(refine ax (by rfl) ?_)|(refine aI (by rfl) (by rfl) (fun K hK=>?_);go_big_quiet_op;refine hK _ ?_;clear hK K))
 refine aK (by rfl) (by rfl) (fun K hK=>?_)
 go_wp2_with fail
 refine(ahB _ _ (dD p.aG q.aG) (og p.parts q.parts) _ (by simp[go_sem]) (by simp[go_sem])).mono ?_
 rintro e w' ⟨rfl,rfl⟩
 refine hK _ _ (aA (aj hb1 _)) ?_
 clear hK K
 repeat (first|(refine ax (by rfl) ?_)|(refine aI (by rfl) (by rfl) (fun K hK=>?_);go_big_quiet_op;refine hK _ ?_;clear hK K))
 refine bV ?_
 go_wp2_with fail
 go_ret
 exact⟨by rw[HN.out];rfl,ag hB (aj hb1 _)⟩
theorem UL(r t:aN)(d g:Entry)(w:World)(hp:bn w r.parts d.name)(hq:bn w t.parts g.name):Calls Tryz.prog 113 #[.agg (ae r d),.agg (ae t g)] w fun e w'=>e=.returned (.int .i64 (fE d.name g.name))∧Below w.heap.size w w':=by
 have hB:Below w.heap.size w ((w.alloc (.cells (ae r d) 47)).alloc (.cells (ae t g) 47)):=((Below.refl _ _).alloc (Nat.le_refl _) _).alloc (by simp) _
 go_enter Tryz.func113,Tryz.ntmps113
 go_wp2_with fail
 refine(ahC _ _ _ _ _ (hp.later hB) (hq.later hB)).mono ?_
 rintro e w' ⟨rfl,hb⟩
 go_wp2_with fail
 go_ret
 exact⟨rfl,ag hB hb⟩
end Go.Proofs.YtfieenjdcpjmgaaGreatDoor
