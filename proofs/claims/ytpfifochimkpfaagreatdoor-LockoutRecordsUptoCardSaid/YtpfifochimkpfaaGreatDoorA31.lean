/- A part of the proof. -/
import Derived.Test.YtpfifochimkpfaaGreatDoorA30
namespace Go.WW
open Go.RowKit
section
variable {P:Program} {ops:Array Oper} {S:World→Prop} {st:Oper→Bool} {Q:Act→World→Prop}
structure OU(st:Oper→Bool)(ops:Array Oper)(m:Array (List Nat))(x:Nat)(cs:List Nat):Prop where
 jy:Region.noSelect ops=true
 back:∀j oj,ops[j]?=some oj→∀e∈oj.after,Region.binds .any e=true→e.on<j
 pred:∀j oj,ops[j]?=some oj→∀i∈m.getD j [],∃e∈oj.after,Region.binds .any e=true∧(e.on=i∨i∈m.getD e.on [])
 pair:∀j oj,ops[j]?=some oj→∀i,i<j→∀oi,ops[i]?=some oi→(∃e∈oj.after,Region.binds .any e=true∧e.on=i)∨(oi.apart ops oj=true∧(st oi=true∨st oj=true∨i∈m.getD j []∨(i∈cs∧j=x)))
 past:∀i oi ox,ops[i]?=some oi→ops[x]?=some ox→i<x→(∃c∈cs,c≤i)→i∉cs→ox.apart ops oi=true∧st oi=true
 look:∀i oi,ops[i]?=some oi→i≠x→i∉cs→st oi=true∨x∈m.getD i []
 chain:∀c∈cs,∀c'∈cs,c<c'→c∈m.getD c' []
 lt:∀c∈cs,c<x
 sorted:cs.Pairwise (· < ·)
theorem OV{m:Array (List Nat)}{x:Nat}{cs:List Nat}(hok:OU st ops m x cs){listed:Array Bool}
  (hdown:∀k o,ops[k]?=some o→listed.getD k false=true→∀e∈o.after,Region.binds .any e=true→listed.getD e.on false=true) :
  ∀(j:Nat) (oj:Oper),ops[j]?=some oj→(∀e∈oj.after,Region.binds .any e=true→listed.getD e.on false=true)→∀i∈m.getD j [],listed.getD i false=true:=by
 intro j
 induction j using Nat.strongRecOn with
 |_ j ih=>
  intro oj hj hall i hi
  obtain⟨e,he,hb,hor⟩:=hok.pred j oj hj i hi
  rcases hor with rfl|hor
  ·exact hall e he hb
  ·have hlt:=hok.back j oj hj e he hb
   have hjs:j<ops.size:=(Array.getElem?_eq_some_iff.1 hj).1
   have hoe:ops[e.on]?=some (ops[e.on]'(by omega)):=by simp
   exact ih e.on hlt _ hoe (hdown _ _ hoe (hall e he hb)) i hor
def upto(c:Nat)(L:List Nat):List Nat:=L.filter fun k=>decide (k≤c)
def past(c:Nat)(L:List Nat):List Nat:=L.filter fun k=>decide (c<k)
def rm(i:Nat)(L:List Nat):List Nat:=L.filter fun k=>decide (k≠i)
def Fl(P:Program)(ops:Array Oper)(st:Oper→Bool)(S:World→Prop)(Q:Act→World→Prop)(x:Nat):List Nat→List Nat→Act→World→Prop
 | [],L,a,w=>aG P ops st S Q (L.filterMap (ops[·]?)) a w
 |c::cs,L,a,w=>aG P ops st S Q ((mv x c L).filterMap (ops[·]?)) a w∧aG P ops st S (fun a' w'=>Fl P ops st S Q x cs (past c L) a' w') ((upto c L).filterMap (ops[·]?)) a w
theorem alp(x:Nat):∀(cs A R:List Nat) (a:Act) (w:World),S w→(∀c∈cs,∀k∈A,k<c)→aG P ops st S (fun a' w'=>Fl P ops st S Q x cs R a' w') (A.filterMap (ops[·]?)) a w→Fl P ops st S Q x cs (A++R) a w
 | [],A,R,a,w,_,_,h=>by
  unfold Fl
  rw[List.filterMap_append,Aa]
  exact h
 |c::cs,A,R,a,w,hS,hc,h=>by
  have hA:∀k∈A,k<c:=hc c (by simp)
  have e1:mv x c (A++R)=A++mv x c R:=by
   unfold mv
   have f1:A.filter (fun k=>decide (k<c))=A:=List.filter_eq_self.2 fun y hy=>by have:=hA y hy;simpa using this
   have f2:A.filter (fun k=>decide (c≤k)&&decide (k≠x))=[]:=List.filter_eq_nil_iff.2 fun y hy=>by have:=hA y hy;simp;omega
   rw[List.filter_append,List.filter_append,f1,f2,List.nil_append,List.append_assoc]
  have e2:upto c (A++R)=A++upto c R:=by
   unfold upto
   have f1:A.filter (fun k=>decide (k≤c))=A:=List.filter_eq_self.2 fun y hy=>by have:=hA y hy;simp;omega
   rw[List.filter_append,f1]
  have e3:past c (A++R)=past c R:=by
   unfold past
   have f1:A.filter (fun k=>decide (c<k))=[]:=List.filter_eq_nil_iff.2 fun y hy=>by have:=hA y hy;simp;omega
   rw[List.filter_append,f1,List.nil_append]
  unfold Fl at h ⊢
  rw[e1,e2,e3,List.filterMap_append,List.filterMap_append,Aa,Aa]
  exact⟨uM (fun _ _ _ hb=>hb.1) _ _ _ hS h,uM (fun _ _ _ hb=>hb.2) _ _ _ hS h⟩
theorem OW{i:Nat}{p:Nat→Bool}(h:p i=false):∀(L:List Nat),(rm i L).filter p=L.filter p
 | []=>rfl
 |k::L=>by
  have ih:=OW h L
  by_cases hk:k=i
  ·subst hk
   have:rm k (k::L)=rm k L:=List.filter_cons_of_neg (by simp)
   rw[this,ih,List.filter_cons_of_neg (by simp[h])]
  ·have:rm i (k::L)=k::rm i L:=List.filter_cons_of_pos (by simpa using hk)
   rw[this,List.filter_cons,List.filter_cons,ih]
theorem alq{i:Nat}{p:Nat→Bool}(L:List Nat):(rm i L).filter p=rm i (L.filter p):=by
 unfold rm
 rw[List.filter_filter,List.filter_filter]
 exact List.filter_congr fun y _=>Bool.and_comm ..
theorem OX{i:Nat}{L1 L2:List Nat}(h:(L1++i::L2).Pairwise (· < ·)):rm i (L1++i::L2)=L1++L2:=by
 have hs:=List.pairwise_append.1 h
 have h1:L1.filter (fun k=>decide (k≠i))=L1:=List.filter_eq_self.2 fun y hy=>by have:=hs.2.2 y hy i (by simp);simp;omega
 have h2:L2.filter (fun k=>decide (k≠i))=L2:=List.filter_eq_self.2 fun y hy=>by have:=(List.pairwise_cons.1 hs.2.1).1 y hy;simp;omega
 unfold rm
 rw[List.filter_append,List.filter_cons_of_neg (by simp),h1,h2]
theorem Yd{x i:Nat}{o:Oper}(ho:ops[i]?=some o)(hst:st o=true)(hsel:∀cs b,o.op≠.select cs b)(hix:i≠x) :
  ∀(cs L:List Nat) (a:Act) (w:World),S w→L.Pairwise (· < ·)→i∈L→(∀c∈cs,c<x)→i∉cs→cs.Pairwise (· < ·)→
   (∀k ox,ops[k]?=some ox→k∈L→k<i→(∀cs b,ox.op≠.select cs b)∧ox.apart ops o=true∧(st ox=true∨st o=true))→
   (∀ox,ops[x]?=some ox→(∃c∈cs,c<i)→(∀cs b,ox.op≠.select cs b)∧ox.apart ops o=true∧(st ox=true∨st o=true))→
   Fl P ops st S Q x cs L a w→aG P ops st S (fun a' w'=>Fl P ops st S Q x cs (rm i L) a' w') [o] a w
 | [],L,a,w,hS,hs,hi,_,_,_,hp,_,h=>by
  obtain⟨L1,L2,rfl⟩:=List.append_of_mem hi
  have hs1:=List.pairwise_append.1 hs
  rw[OX hs]
  unfold Fl at h ⊢
  rw[List.filterMap_append,List.filterMap_cons_some ho]at h
  have hf:=jE hsel _ (fun y hy=>by
   obtain⟨k,dZ,hox⟩:=List.mem_filterMap.1 hy
   exact hp k y hox (by simp[dZ]) (hs1.2.2 k dZ i (by simp))) a w hS h
  rw[←List.filterMap_append,←List.singleton_append,Aa]at hf
  exact hf
 |c::cs,L,a,w,hS,hs,hi,hx,hic,hcs,hp,hpx,h=>by
  have aoE:i≠c:=fun e=>hic (by simp[e])
  have hcx:c<x:=hx c (by simp)
  unfold Fl at h
  obtain⟨hA,hB⟩:=h
  have lt1:∀{L1 L2:List Nat},L1++i::L2=L→∀k∈L1,k<i∧k∈L:=fun{L1 L2} e k hk=>⟨(List.pairwise_append.1 (e▸hs)).2.2 k hk i (by simp),by rw[←e];simp[hk]⟩
  obtain⟨L1,L2,hL⟩:∃L1 L2,L1++i::L2=L:=by obtain⟨L1,L2,e⟩:=List.append_of_mem hi;exact⟨L1,L2,e.symm⟩
  have hl1:=lt1 hL
  have hrm:rm i L=L1++L2:=by rw[←hL];exact OX (hL▸hs)
  have hl2:∀k∈L2,i<k:=fun k hk=>(List.pairwise_cons.1 (List.pairwise_append.1 (hL▸hs)).2.1).1 k hk
  have hf1:aG P ops st S Q (o::(mv x c (rm i L)).filterMap (ops[·]?)) a w:=by
   rw[hrm]
   rw[←hL]at hA
   by_cases hlt:i<c
   ·have e1:(L1++i::L2).filter (fun k=>decide (k<c))=L1.filter (fun k=>decide (k<c))++i::L2.filter (fun k=>decide (k<c)):=by simp[List.filter_append,hlt]
    have e2:(L1++i::L2).filter (fun k=>decide (c≤k)&&decide (k≠x))=(L1++L2).filter (fun k=>decide (c≤k)&&decide (k≠x)):=by simp[List.filter_append,show ¬c≤i by omega]
    rw[mv,e1,e2,List.append_assoc,List.cons_append,List.filterMap_append,List.filterMap_cons_some ho]at hA
    have hf:=jE hsel _ (fun y hy=>by
     obtain⟨k,dZ,hoy⟩:=List.mem_filterMap.1 hy
     have hk:=hl1 k (List.mem_filter.1 dZ).1
     exact hp k y hoy hk.2 hk.1) a w hS hA
    rw[←List.filterMap_append,←List.append_assoc,←List.filter_append]at hf
    exact hf
   ·have hgt:c<i:=by omega
    have e1:(L1++i::L2).filter (fun k=>decide (k<c))=(L1++L2).filter (fun k=>decide (k<c)):=by simp[List.filter_append,hlt]
    have e2:(L1++i::L2).filter (fun k=>decide (c≤k)&&decide (k≠x))=L1.filter (fun k=>decide (c≤k)&&decide (k≠x))++i::L2.filter (fun k=>decide (c≤k)&&decide (k≠x)):=by
     simp[List.filter_append,show c≤i by omega,hix]
    rw[mv,e1,e2,←List.cons_append,←List.append_assoc,List.filterMap_append,List.filterMap_cons_some ho]at hA
    have hf:=jE hsel _ (fun y hy=>by
     obtain⟨k,dZ,hoy⟩:=List.mem_filterMap.1 hy
     rcases List.mem_append.1 dZ with h1|h1
     ·have hk:=List.mem_filter.1 h1
      have hkc:k<c:=by simpa using hk.2
      have mP:k∈L:=by
       rw[←hL]
       rcases List.mem_append.1 hk.1 with h2|h2
       ·simp[h2]
       ·simp[h2]
      exact hp k y hoy mP (by omega)
     ·rcases List.mem_cons.1 h1 with h1|h1
      ·subst h1
       exact hpx y hoy ⟨c,by simp,hgt⟩
      ·have hk:=hl1 k (List.mem_filter.1 h1).1
       exact hp k y hoy hk.2 hk.1) a w hS hA
    rw[←List.filterMap_append,List.append_assoc,List.cons_append,←List.filter_append]at hf
    exact hf
  by_cases hlt:i<c
  ·have e2:upto c L=upto c L1++i::upto c L2:=by rw[←hL];simp[upto,List.filter_append,show i≤c by omega]
   have e2':upto c (rm i L)=upto c L1++upto c L2:=by rw[hrm];simp[upto,List.filter_append]
   have e3:past c (rm i L)=past c L:=OW (by simp;omega) L
   rw[e2,List.filterMap_append,List.filterMap_cons_some ho]at hB
   have hf:=jE hsel _ (fun y hy=>by
    obtain⟨k,dZ,hoy⟩:=List.mem_filterMap.1 hy
    have hk:=hl1 k (List.mem_filter.1 dZ).1
    exact hp k y hoy hk.2 hk.1) a w hS hB
   rw[←List.filterMap_append,←e2']at hf
   have:=Yc hst hS hf1 hf
   refine uM (fun a' w' _ hb=>?_) _ _ _ hS this
   unfold Fl
   rw[e3]
   exact hb
  ·have hgt:c<i:=by omega
   have e2:upto c (rm i L)=upto c L:=OW (by simp;omega) L
   have e3:past c (rm i L)=rm i (past c L):=alq L
   have hB2:aG P ops st S (fun a' w'=>aG P ops st S (fun a' w'=>Fl P ops st S Q x cs (rm i (past c L)) a' w') [o] a' w') ((upto c L).filterMap (ops[·]?)) a w:=by
    refine uM (fun a' w' hS' hb=>?_) _ _ _ hS hB
    exact Yd ho hst hsel hix cs (past c L) a' w' hS' (hs.filter _) (List.mem_filter.2 ⟨hi,by simpa using hgt⟩) (fun y hy=>hx y (by simp[hy])) (fun h'=>hic (by simp[h'])) (List.pairwise_cons.1 hcs).2
     (fun k ox hk dZ=>hp k ox hk (List.mem_filter.1 dZ).1) (fun ox hox ⟨y,hy,hyi⟩=>hpx ox hox ⟨y,by simp[hy],hyi⟩) hb
   rw[←Aa]at hB2
   have hf:=jE hsel _ (fun y hy=>by
    obtain⟨k,dZ,hoy⟩:=List.mem_filterMap.1 hy
    have hk:=List.mem_filter.1 dZ
    have hkc:k≤c:=by simpa using hk.2
    exact hp k y hoy hk.1 (by omega)) a w hS hB2
   rw[List.append_nil]at hf
   have:=Yc hst hS hf1 hf
   refine uM (fun a' w' _ hb=>?_) _ _ _ hS this
   unfold Fl
   rw[e2,e3]
   exact hb
def Ye(P:Program)(ops:Array Oper)(st:Oper→Bool)(S:World→Prop)(Q:Act→World→Prop)(x:Nat)(cs L:List Nat)(a:Act)(w:World):Prop:=
 (x∈L→Fl P ops st S Q x (cs.filter fun c=>decide (c∈L)) L a w)∧(x∉L→aG P ops st S Q (L.filterMap (ops[·]?)) a w)
theorem als{m:Array (List Nat)}{x:Nat}{cs:List Nat}(hok:OU st ops m x cs){Q':Exit→Act→World→Prop}(hQ:∀a w,Q a w→Q' .normal a w) :
  ∀(n:Nat) (L:List Nat) (listed:Array Bool) (a:Act) (w:World),L.length=n→L.Pairwise (· < ·)→listed.size=ops.size→(∀j,j∈L↔j<ops.size∧listed.getD j true=false)→
   (∀k o,ops[k]?=some o→listed.getD k false=true→∀e∈o.after,Region.binds .any e=true→listed.getD e.on false=true)→
   S w→Ye P ops st S Q x cs L a w→wpAny P .any ops Q' n listed a w:=by
 intro n
 induction n with
 |zero=>
  intro L listed a w hn _ hsz hL _ _ h
  have:L=[]:=List.eq_nil_of_length_eq_zero hn
  subst this
  refine⟨?_,hQ _ _ (h.2 (by simp))⟩
  cases hr:Region.ready .any ops listed with
  |nil=>rfl
  |cons i r=>
   have hi:i∈Region.ready .any ops listed:=by rw[hr];simp
   obtain⟨h0,o,ho,_⟩:=mem_ready.1 hi
   have:=(hL i).2 ⟨(Array.getElem?_eq_some_iff.1 ho).1,h0⟩
   cases this
 |succ n ih=>
  intro L listed a w hn hsort hsz hL hdown hS h
  refine⟨fun hr=>?_,fun i hi=>?_⟩
  ·exfalso
   cases L with
   |nil=>simp at hn
   |cons j L=>
    obtain⟨hj,hjl⟩:=(hL j).1 (by simp)
    have hoj:ops[j]?=some ops[j]:=by simp[hj]
    have:j∈Region.ready .any ops listed:=by
     refine mem_ready.2 ⟨hjl,_,hoj,fun e he hb=>?_⟩
     have hlt:=hok.back j _ hoj e he hb
     have hnot:e.on∉j::L:=by
      intro hmem
      rcases List.mem_cons.1 hmem with h1|h1
      ·omega
      ·have:=(List.pairwise_cons.1 hsort).1 _ h1;omega
     have h2:listed.getD e.on true≠false:=fun hf=>hnot ((hL e.on).2 ⟨by omega,hf⟩)
     have hes:e.on<listed.size:=by omega
     simp[hes]at h2 ⊢;exact h2
    rw[hr]at this;cases this
  ·obtain⟨h0,o,ho,hall⟩:=mem_ready.1 hi
   have his:i<ops.size:=(Array.getElem?_eq_some_iff.1 ho).1
   have hiL:i∈L:=(hL i).2 ⟨his,h0⟩
   have hnl:∀k∈L,¬listed.getD k false=true:=fun k hk hf=>by
    have hkl:=((hL k).1 hk).2
    rw[Ak hf]at hkl;cases hkl
   obtain⟨L1,L2,rfl⟩:=List.append_of_mem hiL
   have dW:=List.pairwise_append.1 hsort
   have hlt1:∀y∈L1,y<i:=fun y hy=>dW.2.2 y hy i (by simp)
   have hgt2:∀y∈L2,i<y:=fun y hy=>(List.pairwise_cons.1 dW.2.1).1 y hy
   have qX:(L1++L2).Pairwise (· < ·):=List.pairwise_append.2 ⟨dW.1,(List.pairwise_cons.1 dW.2.1).2,fun y hy z hz=>dW.2.2 y hy z (by simp[hz])⟩
   have hrest:∀a' w',S w'→Ye P ops st S Q x cs (L1++L2) a' w'→wpAny P .any ops Q' n (listed.setIfInBounds i true) a' w':=by
    intro a' w' hS' hh
    refine ih (L1++L2) (listed.setIfInBounds i true) a' w' ?_ qX (by simpa using hsz) ?_ ?_ hS' hh
    ·simp at hn ⊢;omega
    ·intro j
     by_cases hji:j=i
     ·subst hji
      constructor
      ·intro hm
       exfalso
       rcases List.mem_append.1 hm with h1|h1
       ·have:=hlt1 _ h1;omega
       ·have:=hgt2 _ h1;omega
      ·rintro⟨_,hf⟩
       have:j<listed.size:=by omega
       simp[this]at hf
     ·rw[getD_set_ne true (Ne.symm hji),←hL j]
      simp[hji]
    ·intro k ok hk hkl e he hb
     by_cases hki:k=i
     ·subst hki
      rw[ho]at hk;cases hk
      exact getD_set_true (hall e he hb)
     ·rw[getD_set_ne false (Ne.symm hki)]at hkl
      exact getD_set_true (hdown k ok hk hkl e he hb)
   have pass:∀k ox,ops[k]?=some ox→k∈L1++i::L2→k<i→¬(k∈cs∧i=x)→(∀cs b,ox.op≠.select cs b)∧ox.apart ops o=true∧(st ox=true∨st o=true):=by
    intro k ox hox hk hki hne
    refine⟨(Region.noSelect_spec hok.jy k ox · · hox),?_⟩
    rcases hok.pair i o ho k hki ox hox with⟨e,he,hb,rfl⟩|⟨hap,hor⟩
    ·exact absurd (hall e he hb) (hnl _ hk)
    ·refine⟨hap,?_⟩
     rcases hor with h1|h1|h1|h1
     ·exact .inl h1
     ·exact .inr h1
     ·exact absurd (OV hok hdown i o ho hall k h1) (hnl _ hk)
     ·exact absurd h1 hne
   have hsel:=(Region.noSelect_spec hok.jy i o · · ho)
   have single:∀(Qs:Act→World→Prop) (R:List Oper) (K:Act→World→Prop),aG P ops st S Qs (o::R) a w→(∀a' w',S w'→aG P ops st S Qs R a' w'→K a' w')→wpOp P ops Q' i K a w:=by
    intro Qs R K dh hrest
    unfold wpOp
    simp only[ho]
    rw[bF]at dh
    split
    ·rename_i hw
     rw[if_pos hw]at dh
     refine .inl ?_
     by_cases hs:st o=true
     ·rw[if_pos hs]at dh
      obtain⟨v,hv,hh⟩:=dh
      unfold Oper.wp
      rw[hv w hS]
      exact hrest _ _ hS hh
     ·rw[if_neg hs]at dh
      exact wQ (Oper.wp_mono (fun a' w' hh=>hrest a' w' hh.1 hh.2) dh)
    ·rename_i hw
     rw[if_neg hw]at dh
     exact hrest _ _ hS dh
   have Ac:∀y∈L1++L2,y∈L1++i::L2:=fun y hy=>by
    rcases List.mem_append.1 hy with h1|h1
    ·simp[h1]
    ·simp[h1]
   have BL:∀y∈L1++i::L2,y≠i→y∈L1++L2:=fun y hy hne=>by
    rcases List.mem_append.1 hy with h1|h1
    ·simp[h1]
    ·rcases List.mem_cons.1 h1 with h2|h2
     ·exact absurd h2 hne
     ·simp[h2]
   have hnot:i∉L1++L2:=fun hm=>by
    rcases List.mem_append.1 hm with h1|h1
    ·have:=hlt1 _ h1;omega
    ·have:=hgt2 _ h1;omega
   have AU:(∀k∈L1,¬(k∈cs∧i=x))→∀Qs,aG P ops st S Qs ((L1++i::L2).filterMap (ops[·]?)) a w→aG P ops st S Qs (o::(L1++L2).filterMap (ops[·]?)) a w:=fun hk Qs h=>by
    rw[List.filterMap_append,List.filterMap_cons_some ho]at h
    rw[List.filterMap_append]
    exact jE hsel _ (fun y hy=>by
     obtain⟨k,dZ,hox⟩:=List.mem_filterMap.1 hy
     exact pass k y hox (by simp[dZ]) (hlt1 k dZ) (hk k dZ)) a w hS h
   by_cases hxL:x∈L1++i::L2
   ·have hF:=h.1 hxL
    have Ad:(cs.filter fun c=>decide (c∈L1++i::L2)).Pairwise (· < ·):=hok.sorted.filter _
    by_cases hix:i=x
    ·subst hix
     cases hcs:cs.filter (fun c=>decide (c∈L1++i::L2))with
     |nil=>
      rw[hcs]at hF
      refine single _ _ _ (AU (fun k hk h'=>?_) Q hF) (fun a' w' hS' hh=>hrest a' w' hS' ⟨fun h'=>absurd h' hnot,fun _=>hh⟩)
      have:k∈cs.filter (fun c=>decide (c∈L1++i::L2)):=List.mem_filter.2 ⟨h'.1,by simp[hk]⟩
      rw[hcs]at this;cases this
     |cons c cs2=>
      rw[hcs]at hF Ad
      have hF1:=hF.1
      have hcm:c∈cs.filter (fun c=>decide (c∈L1++i::L2)):=by rw[hcs];simp
      have hci:c<i:=hok.lt c (List.mem_filter.1 hcm).1
      have e1:(L1++i::L2).filter (fun k=>decide (k<c))=(L1++L2).filter (fun k=>decide (k<c)):=by
       simp[List.filter_append,show ¬i<c by omega]
      have e2:(L1++i::L2).filter (fun k=>decide (c≤k)&&decide (k≠i))=(L1++L2).filter (fun k=>decide (c≤k)):=by
       have:(L1++i::L2).filter (fun k=>decide (c≤k)&&decide (k≠i))=(L1++L2).filter (fun k=>decide (c≤k)&&decide (k≠i)):=by simp[List.filter_append]
       rw[this]
       apply List.filter_congr
       intro y hy
       have:y≠i:=fun e=>hnot (e▸hy)
       simp[this]
      have e3:=Kw c _ qX
      rw[mv,e1,e2,List.filterMap_append,List.filterMap_cons_some ho]at hF1
      have hf:=jE hsel _ (fun y hy=>by
       obtain⟨k,dZ,hox⟩:=List.mem_filterMap.1 hy
       have hk:=List.mem_filter.1 dZ
       have hkc:k<c:=by simpa using hk.2
       refine pass k y hox (Ac k hk.1) (by omega) (fun h'=>?_)
       have hm:k∈c::cs2:=by rw[←hcs];exact List.mem_filter.2 ⟨h'.1,by simpa using Ac k hk.1⟩
       rcases List.mem_cons.1 hm with e|e
       ·omega
       ·have:=(List.pairwise_cons.1 Ad).1 k e;omega) a w hS hF1
      rw[←List.filterMap_append,e3]at hf
      exact single _ _ _ hf (fun a' w' hS' hh=>hrest a' w' hS' ⟨fun h'=>absurd h' hnot,fun _=>hh⟩)
    ·have CZ:x∈L1++L2:=BL x hxL (Ne.symm hix)
     by_cases hic:i∈cs
     ·cases hcs:cs.filter (fun c=>decide (c∈L1++i::L2))with
      |nil=>
       have:i∈cs.filter (fun c=>decide (c∈L1++i::L2)):=List.mem_filter.2 ⟨hic,by simp⟩
       rw[hcs]at this;cases this
      |cons c cs2=>
       rw[hcs]at hF Ad
       have him:i∈c::cs2:=by rw[←hcs];exact List.mem_filter.2 ⟨hic,by simp⟩
       have hcm:c∈cs.filter (fun c=>decide (c∈L1++i::L2)):=by rw[hcs];simp
       have hci:c=i:=by
        rcases List.mem_cons.1 him with e|e
        ·exact e.symm
        ·have hlt:=(List.pairwise_cons.1 Ad).1 i e
         have hm:=List.mem_filter.1 hcm
         exact absurd (OV hok hdown i o ho hall c (hok.chain c hm.1 i hic hlt)) (hnl _ (by simpa using hm.2))
       subst hci
       have hF2:=hF.2
       have u1:upto c (L1++c::L2)=L1++[c]:=by
        have f1:L1.filter (fun k=>decide (k≤c))=L1:=List.filter_eq_self.2 fun y hy=>by have:=hlt1 y hy;simp;omega
        have f2:L2.filter (fun k=>decide (k≤c))=[]:=List.filter_eq_nil_iff.2 fun y hy=>by have:=hgt2 y hy;simp;omega
        unfold upto
        rw[List.filter_append,List.filter_cons_of_pos (by simp),f1,f2]
       have u2:past c (L1++c::L2)=L2:=by
        have f1:L1.filter (fun k=>decide (c<k))=[]:=List.filter_eq_nil_iff.2 fun y hy=>by have:=hlt1 y hy;simp;omega
        have f2:L2.filter (fun k=>decide (c<k))=L2:=List.filter_eq_self.2 fun y hy=>by have:=hgt2 y hy;simpa using this
        unfold past
        rw[List.filter_append,List.filter_cons_of_neg (by simp),f1,f2,List.nil_append]
       rw[u1,u2,List.filterMap_append,List.filterMap_cons_some ho,List.filterMap_nil]at hF2
       have hf:=jE hsel _ (fun y hy=>by
        obtain⟨k,dZ,hox⟩:=List.mem_filterMap.1 hy
        exact pass k y hox (by simp[dZ]) (hlt1 k dZ) (fun h'=>hix h'.2)) a w hS hF2
       rw[List.append_nil]at hf
       have e4:cs.filter (fun q=>decide (q∈L1++L2))=cs2:=by
        have:cs.filter (fun q=>decide (q∈L1++L2))=(cs.filter (fun q=>decide (q∈L1++c::L2))).filter (fun q=>decide (q≠c)):=by
         rw[List.filter_filter]
         refine List.filter_congr fun y _=>?_
         by_cases hy:y=c
         ·subst hy;simp[hnot]
         ·have:(y∈L1++L2)=(y∈L1++c::L2):=propext ⟨Ac y,fun hm=>BL y hm hy⟩
          simp[this,hy]
        rw[this,hcs,List.filter_cons_of_neg (by simp)]
        exact List.filter_eq_self.2 fun y hy=>by have:=(List.pairwise_cons.1 Ad).1 y hy;simp;omega
       refine single _ _ _ hf (fun a' w' hS' hh=>hrest a' w' hS' ⟨fun _=>?_,fun h'=>absurd CZ h'⟩)
       rw[e4]
       exact alp x cs2 L1 L2 a' w' hS' (fun y hy k hk=>by have:=(List.pairwise_cons.1 Ad).1 y hy;have:=hlt1 k hk;omega) hh
     ·have hst:st o=true:=by
       rcases hok.look i o ho hix hic with h1|h1
       ·exact h1
       ·exact absurd (OV hok hdown i o ho hall x h1) (hnl _ hxL)
      have e4:cs.filter (fun q=>decide (q∈L1++L2))=cs.filter (fun q=>decide (q∈L1++i::L2)):=by
       refine List.filter_congr fun y hy=>?_
       have hyi:y≠i:=fun e=>hic (e▸hy)
       have:(y∈L1++L2)=(y∈L1++i::L2):=propext ⟨Ac y,fun hm=>BL y hm hyi⟩
       simp[this]
      have hxs:x<ops.size:=((hL x).1 hxL).1
      have hf:=Yd (P:=P) (Q:=Q) ho hst hsel hix (cs.filter fun c=>decide (c∈L1++i::L2)) (L1++i::L2) a w hS hsort (by simp) (fun c hc=>hok.lt c (List.mem_filter.1 hc).1) (fun h'=>hic (List.mem_filter.1 h').1) Ad
       (fun k ox hk dZ hki=>pass k ox hk dZ hki (fun h'=>hix h'.2))
       (fun ox hox ⟨c,hc,hci⟩=>by
        by_cases hxi:x<i
        ·exact pass x ox hox hxL hxi (fun h'=>hix h'.2)
        ·obtain⟨ha,hs⟩:=hok.past i o ox ho hox (by omega) ⟨c,(List.mem_filter.1 hc).1,by omega⟩ hic
         exact⟨(Region.noSelect_spec hok.jy x ox · · hox),ha,.inr hs⟩) hF
      rw[OX hsort,←e4]at hf
      exact single _ _ _ hf (fun a' w' hS' hh=>hrest a' w' hS' ⟨fun _=>hh,fun h'=>absurd CZ h'⟩)
   ·have CZ:x∉L1++L2:=fun h'=>hxL (Ac x h')
    exact single _ _ _ (AU (fun k hk h'=>hxL (by rw[←h'.2];simp)) Q (h.2 hxL)) (fun a' w' hS' hh=>hrest a' w' hS' ⟨fun h'=>absurd h' CZ,fun _=>hh⟩)
def I9(st:Oper→Bool)(ops:Array Oper)(x:Nat)(cs:List Nat):Bool:=
 let m:=lK st ops
 Region.noSelect ops&&cs.all (fun c=>decide (c<x)&&cs.all fun c'=>!decide (c<c') || (m.getD c' []).contains c)&&(List.range ops.size).all fun j=>match ops[j]? with
  |none=>true
  |some oj=>
   oj.after.toList.all (fun e=>!Region.binds .any e || decide (e.on<j))&&
   (m.getD j []).all (fun i=>oj.after.toList.any fun e=>Region.binds .any e&&(e.on == i || (m.getD e.on []).contains i))&&
   ((List.range j).all fun i=>match ops[i]? with
    |none=>true
    |some oi=>oj.after.toList.any (fun e=>Region.binds .any e&&e.on == i) || (oi.apart ops oj&&(st oi || st oj || (m.getD j []).contains i || (cs.contains i&&j == x))))&&
   (j == x || cs.contains j || st oj || (m.getD j []).contains x)&&
   (match ops[x]? with
    |none=>true
    |some ox=>!(decide (j<x)&&cs.any (fun c=>decide (c≤j))&&!cs.contains j) || (ox.apart ops oj&&st oj))
theorem alu{x:Nat}{cs:List Nat}(hs:cs.Pairwise (· < ·))(h:I9 st ops x cs=true):OU st ops (lK st ops) x cs:=by
 unfold I9 at h
 simp only[Bool.and_eq_true,List.all_eq_true,List.mem_range,decide_eq_true_eq]at h
 obtain⟨⟨hsl,hc⟩,h⟩:=h
 have lt:∀{j:Nat} {oj:Oper},ops[j]?=some oj→j<ops.size:=fun hj=>(Array.getElem?_eq_some_iff.1 hj).1
 have chain:∀c∈cs,∀c'∈cs,c<c'→c∈(lK st ops).getD c' []:=fun c hcm c' hcm' hlt=>by
  have h2:=(hc c hcm).2 c' hcm'
  simp only[Bool.or_eq_true,Bool.not_eq_true',decide_eq_false_iff_not,List.contains_iff_mem]at h2
  rcases h2 with h2|h2
  ·exact absurd hlt h2
  ·exact h2
 refine⟨hsl,fun j oj hj=>?_,fun j oj hj=>?_,fun j oj hj=>?_,fun j oj ox hj hox=>?_,fun j oj hj=>?_,chain,fun c hcm=>(hc c hcm).1,hs⟩
 all_goals
  have hh:=h j (lt hj)
  simp only[hj,Bool.and_eq_true,List.all_eq_true,List.mem_range]at hh
  obtain⟨⟨⟨⟨h1,h2⟩,h3⟩,h4⟩,h5⟩:=hh
 ·intro e he hb
  have:=h1 e (by simpa using he)
  simpa[hb]using this
 ·intro i hi
  have:=h2 i hi
  simp only[List.any_eq_true,Bool.and_eq_true,Bool.or_eq_true,beq_iff_eq,List.contains_iff_mem]at this
  obtain⟨e,he,hb,hor⟩:=this
  exact⟨e,by simpa using he,hb,hor⟩
 ·intro i hi oi ho
  have:=h3 i hi
  simp only[ho,Bool.or_eq_true,List.any_eq_true,Bool.and_eq_true,beq_iff_eq,List.contains_iff_mem]at this
  rcases this with⟨e,he,hb,hor⟩|⟨ha,hor⟩
  ·exact .inl ⟨e,by simpa using he,hb,hor⟩
  ·exact .inr ⟨ha,by rcases hor with((h|h)|h)|h;exact .inl h;exact .inr (.inl h);exact .inr (.inr (.inl h));exact .inr (.inr (.inr h))⟩
 ·intro yJ hex hnc
  simp only[hox,Bool.or_eq_true,Bool.and_eq_true]at h5
  rcases h5 with h5|h5
  ·exfalso
   obtain⟨c,hcm,hcj⟩:=hex
   have:(decide (j<x)&&cs.any (fun c=>decide (c≤j))&&!cs.contains j)=true:=by
    simp only[Bool.and_eq_true,decide_eq_true_eq,List.any_eq_true,Bool.not_eq_true']
    refine⟨⟨yJ,c,hcm,hcj⟩,?_⟩
    cases hcn:cs.contains j
    ·rfl
    ·exact absurd (List.contains_iff_mem.1 hcn) hnc
   rw[this]at h5;cases h5
  ·exact h5
 ·intro yJ hjc
  simp only[Bool.or_eq_true,beq_iff_eq,List.contains_iff_mem]at h4
  rcases h4 with((h4|h4)|h4)|h4
  ·exact absurd h4 yJ
  ·exact absurd h4 hjc
  ·exact .inl h4
  ·exact .inr h4
theorem alv{id:Nat}{Q':Exit→Act→World→Prop}{a:Act}{w:World}{l:List Oper}(S:World→Prop)(st:Oper→Bool)(x:Nat)(cs:List Nat)(hm:P.follows .mixedOrders=true)(hs:cs.Pairwise (· < ·))(hx:x<l.length)(hcs:∀c∈cs,c<l.length)(hB:I9 st l.toArray x cs=true)
  (hS:S w.drew) (h:Fl P l.toArray st S (fun a' w'=>Q' .normal a' w') x cs (List.range l.toArray.size) a w.drew):(Code.region id l.toArray true).wp P Q' a w:=by
 refine wp_region_any hm ?_
 refine als (P:=P) (S:=S) (Q:=fun a' w'=>Q' .normal a' w') (alu hs hB) (Q':=Q') (fun _ _ h=>h) l.toArray.size (List.range l.toArray.size) (Array.replicate l.toArray.size false) a w.drew
  (by simp) List.pairwise_lt_range (by simp) (by intro j;simp;intro h;simp[h]) (by intro k o hk hkl;exfalso;rw[Array.getD_eq_getD_getElem?,Array.getElem?_replicate]at hkl;split at hkl<;>simp at hkl) hS ⟨fun _=>?_,fun hn=>absurd (List.mem_range.2 (by simpa using hx)) hn⟩
 have e:cs.filter (fun c=>decide (c∈List.range l.toArray.size))=cs:=List.filter_eq_self.2 fun c hc=>by have:=hcs c hc;simpa using this
 rw[e]
 exact h
end
theorem alx{P:Program}{id:Nat}{Q':Exit→Act→World→Prop}{a:Act}{W w:World}{l:List Oper}(x c1 c2:Nat)(i1 i2 i3 i4:List Nat)(hW:Below W.heap.size W w)(hm:P.follows .mixedOrders=true)(hlt:c1<c2)(hx:x<l.length)(hc2:c2<l.length)(hB:I9 looks l.toArray x [c1,c2]=true)
  (h1:mv x c1 (List.range l.toArray.size)=i1) (h2:upto c1 (List.range l.toArray.size)=i2) (h3:mv x c2 (past c1 (List.range l.toArray.size))=i3) (h4:upto c2 (past c1 (List.range l.toArray.size))++past c2 (past c1 (List.range l.toArray.size))=i4)
  (hA:∀w1,Below W.heap.size W w1→aG P l.toArray looks (since W) (fun a' w'=>Q' .normal a' w') (pick l i1) a w1)
  (hC:∀w1,Below W.heap.size W w1→aG P l.toArray looks (since W) (fun a' w'=>aG P l.toArray looks (since W) (fun a' w'=>Q' .normal a' w') (pick l i3) a' w'∧aG P l.toArray looks (since W) (fun a' w'=>Q' .normal a' w') (pick l i4) a' w') (pick l i2) a w1):(Code.region id l.toArray true).wp P Q' a w:=by
 refine alv (since W) looks x [c1,c2] hm (by simpa using hlt) hx (by intro c hc;simp at hc;rcases hc with rfl|rfl<;>omega) hB ⟨⟨w.drew,hW.drew⟩,rfl⟩ ?_
 unfold Fl
 refine⟨by rw[h1,←xm];exact hA _ hW.drew,?_⟩
 rw[h2,←xm]
 have:=hC _ hW.drew
 refine uM (S:=since W) (fun a' w' _ hb=>?_) _ a w.drew ⟨⟨w.drew,hW.drew⟩,rfl⟩ this
 unfold Fl
 refine⟨by rw[h3,←xm];exact hb.1,?_⟩
 have hb2:=hb.2
 rw[xm,←h4,List.filterMap_append,Aa]at hb2
 exact hb2
end Go.WW
namespace Go.WW
open Go.RowKit
section
variable {P:Program} {ops:Array Oper} {st st2:Oper→Bool} {S:World→Prop} {Q:Act→World→Prop}
structure Yf(st st2:Oper→Bool)(ops:Array Oper)(m0:Array (List Nat))(c0 x p:Nat):Prop where
 aly:∀j oj,ops[j]?=some oj→∀i∈m0.getD j [],∃e∈oj.after,Region.binds .any e=true∧(e.on=i∨i∈m0.getD e.on [])
 ahead:∀k,k<c0→k∈m0.getD c0 []
 behind:∀i oi,ops[i]?=some oi→c0<i→i≠x→c0∈m0.getD i []
 pair:∀i oi,ops[i]?=some oi→i≤c0→∀k,k<i→∀ok,ops[k]?=some ok→k∈m0.getD i []∨(ok.apart ops oi=true∧(st ok=true∨st oi=true))
 OY:∀ox,ops[x]?=some ox→st ox=true∧st2 ox=true
 xa:∀k ok,ops[k]?=some ok→∀ox,ops[x]?=some ox→k<p→k∈m0.getD x []∨ok.apart ops ox=true
 xb:∀k ok,ops[k]?=some ok→∀ox,ops[x]?=some ox→p≤k→k≤c0→ox.apart ops ok=true
 xc:∀k ok,ops[k]?=some ok→∀ox,ops[x]?=some ox→c0<k→k<x→ox.apart ops ok=true
 ord:p≤c0∧c0<x
theorem alz{m0:Array (List Nat)}(hp:∀j oj,ops[j]?=some oj→∀i∈m0.getD j [],∃e∈oj.after,Region.binds .any e=true∧(e.on=i∨i∈m0.getD e.on []))(hback:∀j oj,ops[j]?=some oj→∀e∈oj.after,Region.binds .any e=true→e.on<j){listed:Array Bool}
  (hdown:∀k o,ops[k]?=some o→listed.getD k false=true→∀e∈o.after,Region.binds .any e=true→listed.getD e.on false=true) :
  ∀(j:Nat) (oj:Oper),ops[j]?=some oj→(∀e∈oj.after,Region.binds .any e=true→listed.getD e.on false=true)→∀i∈m0.getD j [],listed.getD i false=true:=by
 intro j
 induction j using Nat.strongRecOn with
 |_ j ih=>
  intro oj hj hall i hi
  obtain⟨e,he,hb,hor⟩:=hp j oj hj i hi
  rcases hor with rfl|hor
  ·exact hall e he hb
  ·have hlt:=hback j oj hj e he hb
   have hjs:j<ops.size:=(Array.getElem?_eq_some_iff.1 hj).1
   have hoe:ops[e.on]?=some (ops[e.on]'(by omega)):=by simp
   exact ih e.on hlt _ hoe (hdown _ _ hoe (hall e he hb)) i hor
theorem Yg{o:Oper}(ho:∀cs b,o.op≠.select cs b)(hst:st o=true):∀(L1 L2:List Oper),(∀y∈L1,(∀cs b,y.op≠.select cs b)∧o.apart ops y=true)→
  ∀(a:Act) (w:World),S w→aG P ops st S Q (o::(L1++L2)) a w→aG P ops st S Q (L1++o::L2) a w
 | [],_,_,_,_,_,h=>h
 |y::L1,L2,hall,a,w,hS,h=>by
  have hy:=hall y (by simp)
  have h1:=Aj ho hy.1 hy.2 (.inl hst) h
  exact Ai hS (fun a' w' hS' hh=>Yg ho hst L1 L2 (fun z hz=>hall z (by simp[hz])) a' w' hS' hh) h1
def w1(c0 x p:Nat)(L:List Nat):List Nat:=L.filter (fun k=>decide (k<p))++(L.filter (fun k=>decide (k=x))++L.filter (fun k=>decide (p≤k)&&decide (k≤c0)))
def rest(c0 x:Nat)(L:List Nat):List Nat:=L.filter fun k=>decide (c0<k)&&decide (k≠x)
def QP(P:Program)(ops:Array Oper)(st2:Oper→Bool)(S1:World→Prop)(Q:Act→World→Prop)(R:List Nat)(a:Act)(w:World):Prop:=
 ∃S2:World→Prop,(∀v,S2 v→S1 v)∧S2 w∧aG P ops st2 S2 Q (R.filterMap (ops[·]?)) a w
theorem alA{m m0:Array (List Nat)}{c0 x p:Nat}(hok:uT st2 ops m)(pR:Yf st st2 ops m0 c0 x p){Q':Exit→Act→World→Prop}(hQ:∀a w,Q a w→Q' .normal a w) :
  ∀(n:Nat) (L:List Nat) (listed:Array Bool) (a:Act) (w:World),L.length=n→L.Pairwise (· < ·)→listed.size=ops.size→(∀j,j∈L↔j<ops.size∧listed.getD j true=false)→
   (∀k o,ops[k]?=some o→listed.getD k false=true→∀e∈o.after,Region.binds .any e=true→listed.getD e.on false=true)→
   c0∈L→S w→aG P ops st S (QP P ops st2 S Q (rest c0 x L)) ((w1 c0 x p L).filterMap (ops[·]?)) a w→wpAny P .any ops Q' n listed a w:=by
 intro n
 induction n with
 |zero=>
  intro L listed a w hn _ _ _ _ hc
  have:L=[]:=List.eq_nil_of_length_eq_zero hn
  subst this
  cases hc
 |succ n ih=>
  intro L listed a w hn hsort hsz hL hdown hc hS h
  refine⟨fun hr=>?_,fun i hi=>?_⟩
  ·exfalso
   cases L with
   |nil=>simp at hn
   |cons j L=>
    obtain⟨hj,hjl⟩:=(hL j).1 (by simp)
    have hoj:ops[j]?=some ops[j]:=by simp[hj]
    have:j∈Region.ready .any ops listed:=by
     refine mem_ready.2 ⟨hjl,_,hoj,fun e he hb=>?_⟩
     have hlt:=hok.back j _ hoj e he hb
     have hnot:e.on∉j::L:=by
      intro hmem
      rcases List.mem_cons.1 hmem with h1|h1
      ·omega
      ·have:=(List.pairwise_cons.1 hsort).1 _ h1;omega
     have h2:listed.getD e.on true≠false:=fun hf=>hnot ((hL e.on).2 ⟨by omega,hf⟩)
     have hes:e.on<listed.size:=by omega
     simp[hes]at h2 ⊢;exact h2
    rw[hr]at this;cases this
  ·obtain⟨h0,o,ho,hall⟩:=mem_ready.1 hi
   have his:i<ops.size:=(Array.getElem?_eq_some_iff.1 ho).1
   have hiL:i∈L:=(hL i).2 ⟨his,h0⟩
   have hnl:∀k∈L,¬listed.getD k false=true:=fun k hk hf=>by
    have hkl:=((hL k).1 hk).2
    rw[Ak hf]at hkl;cases hkl
   obtain⟨L1,L2,rfl⟩:=List.append_of_mem hiL
   have dW:=List.pairwise_append.1 hsort
   have hlt1:∀y∈L1,y<i:=fun y hy=>dW.2.2 y hy i (by simp)
   have hgt2:∀y∈L2,i<y:=fun y hy=>(List.pairwise_cons.1 dW.2.1).1 y hy
   have qX:(L1++L2).Pairwise (· < ·):=List.pairwise_append.2 ⟨dW.1,(List.pairwise_cons.1 dW.2.1).2,fun y hy z hz=>dW.2.2 y hy z (by simp[hz])⟩
   have hlen:(L1++L2).length=n:=by simp at hn ⊢;omega
   have hsz':(listed.setIfInBounds i true).size=ops.size:=by simpa using hsz
   have hmem':∀j,j∈L1++L2↔j<ops.size∧(listed.setIfInBounds i true).getD j true=false:=by
    intro j
    by_cases hji:j=i
    ·subst hji
     constructor
     ·intro hm
      exfalso
      rcases List.mem_append.1 hm with h1|h1
      ·have:=hlt1 _ h1;omega
      ·have:=hgt2 _ h1;omega
     ·rintro⟨_,hf⟩
      have:j<listed.size:=by omega
      simp[this]at hf
    ·rw[getD_set_ne true (Ne.symm hji),←hL j]
     simp[hji]
   have Ja:∀k o,ops[k]?=some o→(listed.setIfInBounds i true).getD k false=true→∀e∈o.after,Region.binds .any e=true→(listed.setIfInBounds i true).getD e.on false=true:=by
    intro k ok hk hkl e he hb
    by_cases hki:k=i
    ·subst hki
     rw[ho]at hk;cases hk
     exact getD_set_true (hall e he hb)
    ·rw[getD_set_ne false (Ne.symm hki)]at hkl
     exact getD_set_true (hdown k ok hk hkl e he hb)
   have hsel:=(Region.noSelect_spec hok.jy i o · · ho)
   have Jb:∀k∈m0.getD i [],k∈L1++i::L2→False:=fun k hk mP=>hnl k mP (alz pR.aly hok.back hdown i o ho hall k hk)
   have single:∀(Qs:Act→World→Prop) (R:List Oper) (K:Act→World→Prop),aG P ops st S Qs (o::R) a w→(∀a' w',S w'→aG P ops st S Qs R a' w'→K a' w')→wpOp P ops Q' i K a w:=by
    intro Qs R K dh hrest
    unfold wpOp
    simp only[ho]
    rw[bF]at dh
    split
    ·rename_i hw
     rw[if_pos hw]at dh
     refine .inl ?_
     by_cases hs:st o=true
     ·rw[if_pos hs]at dh
      obtain⟨v,hv,hh⟩:=dh
      unfold Oper.wp
      rw[hv w hS]
      exact hrest _ _ hS hh
     ·rw[if_neg hs]at dh
      exact wQ (Oper.wp_mono (fun a' w' hh=>hrest a' w' hh.1 hh.2) dh)
    ·rename_i hw
     rw[if_neg hw]at dh
     exact hrest _ _ hS dh
   have Ac:∀y∈L1++L2,y∈L1++i::L2:=fun y hy=>by
    rcases List.mem_append.1 hy with h1|h1
    ·simp[h1]
    ·simp[h1]
   have BL:∀y∈L1++i::L2,y≠i→y∈L1++L2:=fun y hy hne=>by
    rcases List.mem_append.1 hy with h1|h1
    ·simp[h1]
    ·rcases List.mem_cons.1 h1 with h2|h2
     ·exact absurd h2 hne
     ·simp[h2]
   have hnot:i∉L1++L2:=fun hm=>by
    rcases List.mem_append.1 hm with h1|h1
    ·have:=hlt1 _ h1;omega
    ·have:=hgt2 _ h1;omega
   obtain⟨hpc,hcx⟩:=pR.ord
   by_cases hix:i=x
   ·subst hix
    have hr:rest c0 i (L1++i::L2)=rest c0 i (L1++L2):=by simp[rest,List.filter_append]
    have hX0:(L1++L2).filter (fun k=>decide (k=i))=[]:=List.filter_eq_nil_iff.2 fun y hy=>by have:y≠i:=fun e=>hnot (e▸hy);simpa using this
    have hX1:(L1++i::L2).filter (fun k=>decide (k=i))=[i]:=by
     have h1:L1.filter (fun k=>decide (k=i))=[]:=List.filter_eq_nil_iff.2 fun y hy=>by have:=hlt1 y hy;simp;omega
     have h2:L2.filter (fun k=>decide (k=i))=[]:=List.filter_eq_nil_iff.2 fun y hy=>by have:=hgt2 y hy;simp;omega
     rw[List.filter_append,List.filter_cons_of_pos (by simp),h1,h2,List.nil_append]
    have e1:(L1++i::L2).filter (fun k=>decide (k<p))=(L1++L2).filter (fun k=>decide (k<p)):=by simp[List.filter_append,show ¬i<p by omega]
    have e2:(L1++i::L2).filter (fun k=>decide (p≤k)&&decide (k≤c0))=(L1++L2).filter (fun k=>decide (p≤k)&&decide (k≤c0)):=by simp[List.filter_append,show ¬i≤c0 by omega]
    rw[hr,w1,hX1,e1,e2,List.filterMap_append,List.singleton_append,List.filterMap_cons_some ho]at h
    have hf:=jE hsel _ (fun y hy=>by
     obtain⟨k,dZ,hoy⟩:=List.mem_filterMap.1 hy
     have hk:=List.mem_filter.1 dZ
     have hkp:k<p:=by simpa using hk.2
     refine⟨(Region.noSelect_spec hok.jy k y · · hoy),?_,.inr (pR.OY o ho).1⟩
     rcases pR.xa k y hoy o ho hkp with h1|h1
     ·exact(Jb k h1 (Ac k hk.1)).elim
     ·exact h1) a w hS h
    refine single _ _ _ hf (fun a' w' hS' hh=>ih (L1++L2) _ a' w' hlen qX hsz' hmem' Ja (BL c0 hc (by omega)) hS' ?_)
    rw[w1,hX0,List.nil_append,List.filterMap_append]
    exact hh
   ·have hic:i≤c0:=Classical.byContradiction fun hn=>Jb c0 (pR.behind i o ho (by omega) hix) hc
    have hr:rest c0 x (L1++i::L2)=rest c0 x (L1++L2):=by simp[rest,List.filter_append,show ¬c0<i by omega]
    have eX:(L1++i::L2).filter (fun k=>decide (k=x))=(L1++L2).filter (fun k=>decide (k=x)):=by simp[List.filter_append,hix]
    have OZ:∀k y,ops[k]?=some y→k∈L1→(∀cs b,y.op≠.select cs b)∧y.apart ops o=true∧(st y=true∨st o=true):=fun k y hoy hk=>by
     refine⟨(Region.noSelect_spec hok.jy k y · · hoy),?_⟩
     rcases pR.pair i o ho hic k (hlt1 k hk) y hoy with h1|h1
     ·exact(Jb k h1 (by simp[hk])).elim
     ·exact h1
    have dh:aG P ops st S (QP P ops st2 S Q (rest c0 x (L1++L2))) (o::(w1 c0 x p (L1++L2)).filterMap (ops[·]?)) a w:=by
     rw[hr]at h
     by_cases Yh:i<p
     ·have e1:(L1++i::L2).filter (fun k=>decide (k<p))=L1.filter (fun k=>decide (k<p))++i::L2.filter (fun k=>decide (k<p)):=by simp[List.filter_append,Yh]
      have e2:(L1++i::L2).filter (fun k=>decide (p≤k)&&decide (k≤c0))=(L1++L2).filter (fun k=>decide (p≤k)&&decide (k≤c0)):=by simp[List.filter_append,show ¬p≤i by omega]
      rw[w1,e1,e2,eX,List.append_assoc,List.cons_append,List.filterMap_append,List.filterMap_cons_some ho]at h
      have hf:=jE hsel _ (fun y hy=>by
       obtain⟨k,dZ,hoy⟩:=List.mem_filterMap.1 hy
       exact OZ k y hoy (List.mem_filter.1 dZ).1) a w hS h
      rw[←List.filterMap_append,←List.append_assoc,←List.filter_append]at hf
      exact hf
     ·have e1:(L1++i::L2).filter (fun k=>decide (k<p))=(L1++L2).filter (fun k=>decide (k<p)):=by simp[List.filter_append,Yh]
      have e2:(L1++i::L2).filter (fun k=>decide (p≤k)&&decide (k≤c0))=L1.filter (fun k=>decide (p≤k)&&decide (k≤c0))++i::L2.filter (fun k=>decide (p≤k)&&decide (k≤c0)):=by
       simp[List.filter_append,hic,show p≤i by omega]
      rw[w1,e1,e2,eX,←List.append_assoc,←List.append_assoc,List.filterMap_append,List.filterMap_cons_some ho]at h
      have hf:=jE hsel _ (fun y hy=>by
       obtain⟨k,dZ,hoy⟩:=List.mem_filterMap.1 hy
       rcases List.mem_append.1 dZ with h1|h1
       ·rcases List.mem_append.1 h1 with h2|h2
        ·have hk:=List.mem_filter.1 h2
         have hkp:k<p:=by simpa using hk.2
         have hk1:k∈L1:=by
          rcases List.mem_append.1 hk.1 with h3|h3
          ·exact h3
          ·have:=hgt2 k h3;omega
         exact OZ k y hoy hk1
        ·have hk:=List.mem_filter.1 h2
         have hkx:k=x:=by simpa using hk.2
         subst hkx
         exact⟨(Region.noSelect_spec hok.jy k y · · hoy),pR.xb i o ho y hoy (by omega) hic,.inl (pR.OY y hoy).1⟩
       ·exact OZ k y hoy (List.mem_filter.1 h1).1) a w hS h
      rw[←List.filterMap_append,List.append_assoc,List.append_assoc,←List.filter_append]at hf
      exact hf
    by_cases hi0:i=c0
    ·subst hi0
     have hL1:L1=[]:=by
      cases L1 with
      |nil=>rfl
      |cons k L1=>exact(Jb k (pR.ahead k (hlt1 k (by simp))) (by simp)).elim
     subst hL1
     rw[List.nil_append]at *
     have hw:w1 i x p L2=L2.filter (fun k=>decide (k=x)):=by
      have h1:L2.filter (fun k=>decide (k<p))=[]:=List.filter_eq_nil_iff.2 fun y hy=>by have:=hgt2 y hy;simp;omega
      have h2:L2.filter (fun k=>decide (p≤k)&&decide (k≤i))=[]:=List.filter_eq_nil_iff.2 fun y hy=>by have:=hgt2 y hy;simp;omega
      rw[w1,h1,h2,List.nil_append,List.append_nil]
     rw[hw]at dh
     refine single _ _ _ dh (fun a' w' hS' hh=>?_)
     by_cases hxL:x∈L2
     ·obtain⟨R1,R2,rfl⟩:=List.append_of_mem hxL
      have hsR:=List.pairwise_append.1 qX
      have hr1:∀y∈R1,y<x:=fun y hy=>hsR.2.2 y hy x (by simp)
      have hr2:∀y∈R2,x<y:=fun y hy=>(List.pairwise_cons.1 hsR.2.1).1 y hy
      have hX:(R1++x::R2).filter (fun k=>decide (k=x))=[x]:=by
       have h1:R1.filter (fun k=>decide (k=x))=[]:=List.filter_eq_nil_iff.2 fun y hy=>by have:=hr1 y hy;simp;omega
       have h2:R2.filter (fun k=>decide (k=x))=[]:=List.filter_eq_nil_iff.2 fun y hy=>by have:=hr2 y hy;simp;omega
       rw[List.filter_append,List.filter_cons_of_pos (by simp),h1,h2,List.nil_append]
      have hR:rest i x (R1++x::R2)=R1++R2:=by
       have h1:R1.filter (fun k=>decide (i<k)&&decide (k≠x))=R1:=List.filter_eq_self.2 fun y hy=>by have:=hr1 y hy;have:=hgt2 y (by simp[hy]);simp;omega
       have h2:R2.filter (fun k=>decide (i<k)&&decide (k≠x))=R2:=List.filter_eq_self.2 fun y hy=>by have:=hr2 y hy;have:=hgt2 y (by simp[hy]);simp;omega
       rw[rest,List.filter_append,List.filter_cons_of_neg (by simp),h1,h2]
      have hxs:x<ops.size:=((hL x).1 (by simp)).1
      obtain⟨ox,hox⟩:∃ox,ops[x]?=some ox:=⟨ops[x],by simp[hxs]⟩
      have hxl:=pR.OY ox hox
      rw[hX,hR,List.filterMap_cons_some hox,List.filterMap_nil,bF]at hh
      have hgo:∃S2:World→Prop,(∀v,S2 v→S v)∧S2 w'∧aG P ops st2 S2 Q (ox::(R1++R2).filterMap (ops[·]?)) a' w':=by
       split at hh
       ·rename_i hwn
        rw[if_pos hxl.1]at hh
        obtain⟨v,hv,S2,h1,h2,h3⟩:=hh
        refine⟨S2,h1,h2,?_⟩
        rw[bF,if_pos hwn,if_pos hxl.2]
        exact⟨v,fun u hu=>hv u (h1 u hu),h3⟩
       ·rename_i hwn
        obtain⟨S2,h1,h2,h3⟩:=hh
        refine⟨S2,h1,h2,?_⟩
        rw[bF,if_neg hwn]
        exact h3
      obtain⟨S2,h1,h2,h3⟩:=hgo
      rw[List.filterMap_append]at h3
      have h4:=Yg (Region.noSelect_spec hok.jy x ox · · hox) hxl.2 _ _ (fun y hy=>by
       obtain⟨k,hk,hoy⟩:=List.mem_filterMap.1 hy
       exact⟨(Region.noSelect_spec hok.jy k y · · hoy),pR.xc k y hoy ox hox (hgt2 k (by simp[hk])) (hr1 k hk)⟩) a' w' h2 h3
      exact yg (S:=S2) hok hQ n (R1++x::R2) _ a' w' hlen qX hsz' hmem' Ja h2 (by rw[List.filterMap_append,List.filterMap_cons_some hox];exact h4)
     ·have hX:L2.filter (fun k=>decide (k=x))=[]:=List.filter_eq_nil_iff.2 fun y hy=>by have:y≠x:=fun e=>hxL (e▸hy);simpa using this
      have hR:rest i x L2=L2:=List.filter_eq_self.2 fun y hy=>by have:=hgt2 y hy;have:y≠x:=fun e=>hxL (e▸hy);simp;omega
      rw[hX,hR]at hh
      obtain⟨S2,h1,h2,h3⟩:=hh
      exact yg (S:=S2) hok hQ n L2 _ a' w' hlen qX hsz' hmem' Ja h2 h3
    ·exact single _ _ _ dh (fun a' w' hS' hh=>ih (L1++L2) _ a' w' hlen qX hsz' hmem' Ja (BL c0 hc (Ne.symm hi0)) hS' hh)
def O0(st st2:Oper→Bool)(ops:Array Oper)(c0 x p:Nat):Bool:=
 let m0:=lK (fun _=>false) ops
 decide (p≤c0)&&decide (c0<x)&&(List.range c0).all (fun k=>(m0.getD c0 []).contains k)&&
 (match ops[x]? with
  |none=>true
  |some ox=>st ox&&st2 ox&&(List.range ops.size).all fun k=>match ops[k]? with
   |none=>true
   |some ok=>(!decide (k<p) || (m0.getD x []).contains k || ok.apart ops ox)&&(!(decide (p≤k)&&decide (k≤c0)) || ox.apart ops ok)&&(!(decide (c0<k)&&decide (k<x)) || ox.apart ops ok))&&
 (List.range ops.size).all fun j=>match ops[j]? with
  |none=>true
  |some oj=>
   (m0.getD j []).all (fun i=>oj.after.toList.any fun e=>Region.binds .any e&&(e.on == i || (m0.getD e.on []).contains i))&&
   (!decide (c0<j) || j == x || (m0.getD j []).contains c0)&&
   (!decide (j≤c0) || (List.range j).all fun k=>match ops[k]? with
    |none=>true
    |some ok=>(m0.getD j []).contains k || (ok.apart ops oj&&(st ok || st oj)))
theorem alB{c0 x p:Nat}(h:O0 st st2 ops c0 x p=true):Yf st st2 ops (lK (fun _=>false) ops) c0 x p:=by
 unfold O0 at h
 simp only[Bool.and_eq_true,List.all_eq_true,List.mem_range,decide_eq_true_eq]at h
 obtain⟨⟨⟨⟨hp,hc⟩,ha⟩,hx⟩,h⟩:=h
 have lt:∀{j:Nat} {oj:Oper},ops[j]?=some oj→j<ops.size:=fun hj=>(Array.getElem?_eq_some_iff.1 hj).1
 have hX:∀ox,ops[x]?=some ox→(st ox=true∧st2 ox=true)∧∀k ok,ops[k]?=some ok→((k<p→k∈(lK (fun _=>false) ops).getD x []∨ok.apart ops ox=true)∧(p≤k→k≤c0→ox.apart ops ok=true))∧(c0<k→k<x→ox.apart ops ok=true):=by
  intro ox hox
  simp only[hox,Bool.and_eq_true,List.all_eq_true,List.mem_range]at hx
  obtain⟨h1,h2⟩:=hx
  refine⟨h1,fun k ok hk=>?_⟩
  have h3:=h2 k (lt hk)
  simp only[hk,Bool.and_eq_true,Bool.or_eq_true,Bool.not_eq_true',decide_eq_false_iff_not,List.contains_iff_mem,Bool.and_eq_false_iff]at h3
  obtain⟨⟨h4,h5⟩,h6⟩:=h3
  refine⟨⟨fun hkp=>?_,fun g1 g2=>?_⟩,fun g1 g2=>?_⟩
  ·rcases h4 with(h4|h4)|h4
   ·exact absurd hkp h4
   ·exact .inl h4
   ·exact .inr h4
  ·rcases h5 with(h5|h5)|h5
   ·exact absurd g1 h5
   ·exact absurd g2 h5
   ·exact h5
  ·rcases h6 with(h6|h6)|h6
   ·exact absurd g1 h6
   ·exact absurd g2 h6
   ·exact h6
 have hJ:∀j oj,ops[j]?=some oj→(∀i∈(lK (fun _=>false) ops).getD j [],∃e∈oj.after,Region.binds .any e=true∧(e.on=i∨i∈(lK (fun _=>false) ops).getD e.on []))∧(c0<j→j≠x→c0∈(lK (fun _=>false) ops).getD j [])∧(j≤c0→∀k,k<j→∀ok,ops[k]?=some ok→k∈(lK (fun _=>false) ops).getD j []∨(ok.apart ops oj=true∧(st ok=true∨st oj=true))):=by
  intro j oj hj
  have hh:=h j (lt hj)
  simp only[hj,Bool.and_eq_true,List.all_eq_true]at hh
  obtain⟨⟨h1,h2⟩,h3⟩:=hh
  refine⟨fun i hi=>?_,fun g1 g2=>?_,fun g1 k hk ok hok=>?_⟩
  ·have:=h1 i hi
   simp only[List.any_eq_true,Bool.and_eq_true,Bool.or_eq_true,beq_iff_eq,List.contains_iff_mem]at this
   obtain⟨e,he,hb,hor⟩:=this
   exact⟨e,by simpa using he,hb,hor⟩
  ·simp only[Bool.or_eq_true,Bool.not_eq_true',decide_eq_false_iff_not,beq_iff_eq,List.contains_iff_mem]at h2
   rcases h2 with(h2|h2)|h2
   ·exact absurd g1 h2
   ·exact absurd h2 g2
   ·exact h2
  ·simp only[Bool.or_eq_true,Bool.not_eq_true',decide_eq_false_iff_not,List.all_eq_true,List.mem_range]at h3
   rcases h3 with h3|h3
   ·exact absurd g1 h3
   ·have h4:=h3 k hk
    simp only[hok,Bool.or_eq_true,Bool.and_eq_true,List.contains_iff_mem]at h4
    exact h4
 exact⟨fun j oj hj=>(hJ j oj hj).1,fun k hk=>by have:=ha k hk;simpa using this,fun i oi hi=>(hJ i oi hi).2.1,fun i oi hi=>(hJ i oi hi).2.2,fun ox hox=>(hX ox hox).1,fun k ok hk ox hox=>((hX ox hox).2 k ok hk).1.1,fun k ok hk ox hox=>((hX ox hox).2 k ok hk).1.2,fun k ok hk ox hox=>((hX ox hox).2 k ok hk).2,hp,hc⟩
theorem Jc{id:Nat}{Q':Exit→Act→World→Prop}{a:Act}{w:World}{l:List Oper}(S:World→Prop)(st st2:Oper→Bool)(c0 x p:Nat)(i1 i2:List Nat)(hm:P.follows .mixedOrders=true)(hB:ny st2 l.toArray=true)(pR:O0 st st2 l.toArray c0 x p=true)(hc:c0<l.length)
  (h1:w1 c0 x p (List.range l.toArray.size)=i1) (h2:rest c0 x (List.range l.toArray.size)=i2) (hS:S w.drew)
  (h:aG P l.toArray st S (fun a' w'=>∃S2:World→Prop,(∀v,S2 v→S v)∧S2 w'∧aG P l.toArray st2 S2 (fun a' w'=>Q' .normal a' w') (pick l i2) a' w') (pick l i1) a w.drew):(Code.region id l.toArray true).wp P Q' a w:=by
 refine wp_region_any hm ?_
 refine alA (P:=P) (S:=S) (Q:=fun a' w'=>Q' .normal a' w') (BP hB) (alB pR) (Q':=Q') (fun _ _ h=>h) l.toArray.size (List.range l.toArray.size) (Array.replicate l.toArray.size false) a w.drew
  (by simp) List.pairwise_lt_range (by simp) (by intro j;simp;intro h;simp[h]) (by intro k o hk hkl;exfalso;rw[Array.getD_eq_getD_getElem?,Array.getElem?_replicate]at hkl;split at hkl<;>simp at hkl) (List.mem_range.2 (by simpa using hc)) hS ?_
 rw[h1,h2,←xm]
 refine uM (fun a' w' _ hb=>?_) _ a w.drew hS h
 obtain⟨S2,g1,g2,g3⟩:=hb
 exact⟨S2,g1,g2,by rw[←xm];exact g3⟩
end
end Go.WW
