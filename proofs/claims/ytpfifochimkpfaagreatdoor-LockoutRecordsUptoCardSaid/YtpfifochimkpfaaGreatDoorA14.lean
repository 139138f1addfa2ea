/- A part of the proof. -/
import Derived.Test.YtpfifochimkpfaaGreatDoorA03
import Derived.Test.YtpfifochimkpfaaGreatDoorA13
import Derived.RangeFuncNested
import Derived.RangeFuncBound
import Derived.RangeFuncCalls
import Derived.RangeFuncLeaves
import Derived.Shelf.Abstract
import Derived.Shelf.RegionOpen
import Derived.OwnWalkIn
import Derived.TacticsInMore
import Derived.LoopNIn
import Derived.LoopIn
set_option maxRecDepth 100000
set_option maxHeartbeats 2000000
namespace Go.WW.T3
open Go.RowKit Go.WW
section
variable {P:Program} {ops:Array Oper} {S:World→Prop} {kd:Oper→Nat} {Q:Act→World→Prop}
def LV(P:Program)(S:World→Prop)(kd:Oper→Nat)(w:World)(o:Oper)(ρ:Operand→Value)(v:Value):Prop:=
 if kd o=0 then ∀w',S w'→(execOp ρ o).run P w'=.ok (.value v) w' else(execOp ρ o).run P w=.ok (.value v) w
theorem LV.here{P:Program}{S:World→Prop}{kd:Oper→Nat}{w:World}{o:Oper}{ρ:Operand→Value}{v:Value}(h:LV P S kd w o ρ v)(hS:S w):(execOp ρ o).run P w=.ok (.value v) w:=by
 unfold LV at h
 split at h
 ·exact h w hS
 ·exact h
theorem LV.any{P:Program}{S:World→Prop}{kd:Oper→Nat}{w w1:World}{o:Oper}{ρ:Operand→Value}{v:Value}(h:LV P S kd w o ρ v)(h0:kd o=0):LV P S kd w1 o ρ v:=by
 unfold LV at *
 rw[if_pos h0]at *
 exact h
def aG(P:Program)(ops:Array Oper)(kd:Oper→Nat)(S:World→Prop)(Q:Act→World→Prop):List Oper→Act→World→Prop
 | [],a,w=>Q a w
 |o::rest,a,w=>
  if Region.wanted o (yielded ops a.tmps)then
   if kd o<2 then ∃v,LV P S kd w o a.eval v∧aG P ops kd S Q rest (a.put o.dst v) w
   else o.wp P a w (fun a' w'=>S w'∧aG P ops kd S Q rest a' w') never
  else aG P ops kd S Q rest (a.put o.dst undef) w
theorem bF(o:Oper)(rest:List Oper)(a:Act)(w:World):aG P ops kd S Q (o::rest) a w =
  (if Region.wanted o (yielded ops a.tmps)then
   if kd o<2 then ∃v,LV P S kd w o a.eval v∧aG P ops kd S Q rest (a.put o.dst v) w
   else o.wp P a w (fun a' w'=>S w'∧aG P ops kd S Q rest a' w') never
  else aG P ops kd S Q rest (a.put o.dst undef) w):=rfl
theorem PK{l:List Oper}{Q':Act→World→Prop}(h:∀a w,Q a w→Q' a w):∀{a w},aG P ops kd S Q l a w→aG P ops kd S Q' l a w:=by
 induction l with
 |nil=>exact fun hh=>h _ _ hh
 |cons o l ih=>
  intro a w hh
  rw[bF]at *
  split
  ·rename_i hw
   simp only[hw,if_true]at hh
   split
   ·rename_i hs
    simp only[hs,if_true]at hh
    obtain⟨v,h1,h2⟩:=hh
    exact⟨v,h1,ih h2⟩
   ·rename_i hs
    simp only[hs]at hh
    exact Oper.wp_mono (fun a' w' ⟨x,y⟩=>⟨x,ih y⟩) hh
  ·rename_i hw
   simp only[hw]at hh
   exact ih hh
theorem Ai{o:Oper}{M M':List Oper}{a:Act}{w:World}(hS:S w)(h:∀a' w',S w'→aG P ops kd S Q M a' w'→aG P ops kd S Q M' a' w')
  (hh:aG P ops kd S Q (o::M) a w):aG P ops kd S Q (o::M') a w:=by
 rw[bF]at *
 split
 ·rename_i hw
  simp only[hw,if_true]at hh
  split
  ·rename_i hs
   simp only[hs,if_true]at hh
   obtain⟨v,h1,h2⟩:=hh
   exact⟨v,h1,h _ _ hS h2⟩
  ·rename_i hs
   simp only[hs]at hh
   exact Oper.wp_mono (fun a' w' ⟨x,y⟩=>⟨x,h _ _ x y⟩) hh
 ·rename_i hw
  simp only[hw]at hh
  exact h _ _ hS hh
def Dk(kd:Oper→Nat)(x o:Oper):Bool:=decide (kd x=0) || decide (kd o=0) || (decide (kd x<2)&&decide (kd o<2))
theorem Aj{x o:Oper}{L:List Oper}{a:Act}{w:World}(hS:S w)(hx:∀cs b,x.op≠.select cs b)(ho:∀cs b,o.op≠.select cs b)
  (hap:x.apart ops o=true) (hst:Dk kd x o=true) (h:aG P ops kd S Q (x::o::L) a w):aG P ops kd S Q (o::x::L) a w:=by
 obtain⟨h1,h2,h3⟩:=Oper.apart_spec hap
 have h2':∀d,o.dst=some d→x.dst≠some d:=fun d hd hxd=>h2 d hxd hd
 have wo:∀(b:Act) v,Region.wanted o (yielded ops (b.put x.dst v).tmps)=Region.wanted o (yielded ops b.tmps):=fun b v=>wanted_put o b x.dst v h1
 have wx:∀(b:Act) v,Region.wanted x (yielded ops (b.put o.dst v).tmps)=Region.wanted x (yielded ops b.tmps):=fun b v=>wanted_put x b o.dst v h3
 have eo:∀(w:World) (b:Act) v u,LV P S kd w o (b.put x.dst v).eval u=LV P S kd w o b.eval u:=fun w b v u=>by unfold LV;rw[execOp_put o ho b x.dst v h1]
 have ex:∀(w:World) (b:Act) v u,LV P S kd w x (b.put o.dst v).eval u=LV P S kd w x b.eval u:=fun w b v u=>by unfold LV;rw[execOp_put x hx b o.dst v h3]
 have hc:∀(b:Act) v u,(b.put x.dst v).put o.dst u=(b.put o.dst u).put x.dst v:=fun b v u=>Act.put_comm b v u h2
 have hk:(kd x=0∨kd o=0)∨kd x<2∧kd o<2:=by simpa[Dk]using hst
 rw[bF]at h ⊢
 by_cases hwx:Region.wanted x (yielded ops a.tmps)=true
 ·rw[if_pos hwx]at h
  by_cases hsx:kd x<2
  ·rw[if_pos hsx]at h
   obtain⟨v,hv,h⟩:=h
   rw[bF,wo]at h
   by_cases hwo:Region.wanted o (yielded ops a.tmps)=true
   ·rw[if_pos hwo]at h ⊢
    by_cases hso:kd o<2
    ·rw[if_pos hso]at h ⊢
     obtain⟨u,hu,h⟩:=h
     rw[eo]at hu
     refine⟨u,hu,?_⟩
     rw[bF,wx,if_pos hwx,if_pos hsx]
     exact⟨v,by rw[ex];exact hv,by rw[←hc];exact h⟩
    ·rw[if_neg hso]at h ⊢
     have h0:kd x=0:=by omega
     have h':=sQ ((nZ ho h1 h2).1 h)
     refine Oper.wp_mono ?_ h'
     rintro a' w' ⟨⟨u,ds,rfl⟩,hS',h⟩
     refine⟨hS',?_⟩
     rw[bF,wx,show Region.wanted x (yielded ops ({a with defers:=ds}:Act).tmps)=true from hwx,if_pos rfl,if_pos hsx]
     exact⟨v,by rw[ex];exact hv.any h0,h⟩
   ·rw[if_neg hwo]at h ⊢
    rw[bF,wx,if_pos hwx,if_pos hsx]
    exact⟨v,by rw[ex];exact hv,by rw[←hc];exact h⟩
  ·have h0:kd o=0:=by omega
   have hso:kd o<2:=by omega
   rw[if_neg hsx]at h
   have h':=sQ h
   by_cases hwo:Region.wanted o (yielded ops a.tmps)=true
   ·rw[if_pos hwo,if_pos hso]
    have key:∀a' w',((∃u ds,a'=({a with defers:=ds}:Act).put x.dst u)∧S w'∧aG P ops kd S Q (o::L) a' w')→
      ∃v,LV P S kd w o a.eval v∧S w'∧aG P ops kd S Q L (a'.put o.dst v) w':=by
     rintro a' w' ⟨⟨u,ds,rfl⟩,hS',hh⟩
     rw[bF,wo,show Region.wanted o (yielded ops ({a with defers:=ds}:Act).tmps)=true from hwo,if_pos rfl,if_pos hso]at hh
     obtain⟨v,hv,hh⟩:=hh
     rw[eo]at hv
     exact⟨v,hv.any h0,hS',hh⟩
    obtain⟨a1,w1,h1'⟩:=EO h'
    obtain⟨v,hv,_⟩:=key _ _ h1'
    refine⟨v,hv,?_⟩
    rw[bF,wx,if_pos hwx,if_neg hsx,nZ hx h3 h2']
    refine Oper.wp_mono ?_ h'
    intro a' w' hh
    obtain⟨v',hv',hS',hh⟩:=key _ _ hh
    have e:v'=v:=by
     have:=(hv'.here hS).symm.trans (hv.here hS)
     simpa using this
    subst e
    exact⟨hS',hh⟩
   ·rw[if_neg hwo,bF,wx,if_pos hwx,if_neg hsx,nZ hx h3 h2']
    refine Oper.wp_mono ?_ h'
    rintro a' w' ⟨⟨u,ds,rfl⟩,hS',hh⟩
    rw[bF,wo,show Region.wanted o (yielded ops ({a with defers:=ds}:Act).tmps)=false from by simpa using hwo,if_neg (by simp)]at hh
    exact⟨hS',hh⟩
 ·rw[if_neg hwx]at h
  rw[bF,wo]at h
  by_cases hwo:Region.wanted o (yielded ops a.tmps)=true
  ·rw[if_pos hwo]at h ⊢
   by_cases hso:kd o<2
   ·rw[if_pos hso]at h ⊢
    obtain⟨u,hu,h⟩:=h
    rw[eo]at hu
    refine⟨u,hu,?_⟩
    rw[bF,wx,if_neg hwx,←hc]
    exact h
   ·rw[if_neg hso]at h ⊢
    have h':=sQ ((nZ ho h1 h2).1 h)
    refine Oper.wp_mono ?_ h'
    rintro a' w' ⟨⟨u,ds,rfl⟩,hS',h⟩
    refine⟨hS',?_⟩
    rw[bF,wx,show Region.wanted x (yielded ops ({a with defers:=ds}:Act).tmps)=false from by simpa using hwx,if_neg (by simp)]
    exact h
  ·rw[if_neg hwo]at h ⊢
   rw[bF,wx,if_neg hwx,←hc]
   exact h
theorem jE{o:Oper}{L2:List Oper}(ho:∀cs b,o.op≠.select cs b):∀(L1:List Oper),(∀x∈L1,(∀cs b,x.op≠.select cs b)∧x.apart ops o=true∧Dk kd x o=true)→
  ∀(a:Act) (w:World),S w→aG P ops kd S Q (L1++o::L2) a w→aG P ops kd S Q (o::(L1++L2)) a w
 | [],_,_,_,_,h=>h
 |x::L1,hall,a,w,hS,h=>by
  have hx:=hall x (by simp)
  refine Aj hS hx.1 ho hx.2.1 hx.2.2 ?_
  exact Ai hS (fun a' w' hS' hh=>jE ho L1 (fun y hy=>hall y (by simp[hy])) a' w' hS' hh) h
abbrev lk(kd:Oper→Nat):Oper→Bool:=fun o=>decide (kd o<2)
def ny(kd:Oper→Nat)(ops:Array Oper):Bool:=
 let m:=lK (lk kd) ops
 Region.noSelect ops&&(List.range ops.size).all fun j=>match ops[j]? with
  |none=>true
  |some oj=>
   oj.after.toList.all (fun e=>!Region.binds .any e || decide (e.on<j))&&
   (m.getD j []).all (fun i=>oj.after.toList.any fun e=>Region.binds .any e&&(e.on == i || (m.getD e.on []).contains i))&&
   (List.range j).all fun i=>match ops[i]? with
    |none=>true
    |some oi=>oj.after.toList.any (fun e=>Region.binds .any e&&e.on == i) || (oi.apart ops oj&&(Dk kd oi oj || (m.getD j []).contains i))
structure uT(kd:Oper→Nat)(ops:Array Oper)(m:Array (List Nat)):Prop where
 jy:Region.noSelect ops=true
 back:∀j oj,ops[j]?=some oj→∀e∈oj.after,Region.binds .any e=true→e.on<j
 pred:∀j oj,ops[j]?=some oj→∀i∈m.getD j [],∃e∈oj.after,Region.binds .any e=true∧(e.on=i∨i∈m.getD e.on [])
 pair:∀j oj,ops[j]?=some oj→∀i,i<j→∀oi,ops[i]?=some oi→(∃e∈oj.after,Region.binds .any e=true∧e.on=i)∨(oi.apart ops oj=true∧(Dk kd oi oj=true∨i∈m.getD j []))
theorem BP(h:ny kd ops=true):uT kd ops (lK (lk kd) ops):=by
 unfold ny at h
 simp only[Bool.and_eq_true,List.all_eq_true,List.mem_range]at h
 obtain⟨hs,h⟩:=h
 have lt:∀{j:Nat} {oj:Oper},ops[j]?=some oj→j<ops.size:=fun hj=>(Array.getElem?_eq_some_iff.1 hj).1
 refine⟨hs,fun j oj hj=>?_,fun j oj hj=>?_,fun j oj hj=>?_⟩
 all_goals
  have hh:=h j (lt hj)
  simp only[hj,Bool.and_eq_true,List.all_eq_true,List.mem_range]at hh
  obtain⟨⟨h1,h2⟩,h3⟩:=hh
 ·intro e he hb
  have:=h1 e (by simpa using he)
  simpa[hb]using this
 ·intro i hi
  have:=h2 i hi
  simp only[List.any_eq_true,Bool.and_eq_true,Bool.or_eq_true,beq_iff_eq,List.contains_iff_mem]at this
  obtain⟨e,he,hb,hor⟩:=this
  exact⟨e,by simpa using he,hb,hor⟩
 ·intro i hi oi ho
  have:=h3 i hi
  simp only[ho,Bool.or_eq_true,List.any_eq_true,Bool.and_eq_true,beq_iff_eq,List.contains_iff_mem]at this
  rcases this with⟨e,he,hb,hor⟩|⟨ha,hor⟩
  ·exact .inl ⟨e,by simpa using he,hb,hor⟩
  ·exact .inr ⟨ha,hor⟩
theorem EP{m:Array (List Nat)}(hok:uT kd ops m){listed:Array Bool}
  (hdown:∀k o,ops[k]?=some o→listed.getD k false=true→∀e∈o.after,Region.binds .any e=true→listed.getD e.on false=true) :
  ∀(j:Nat) (oj:Oper),ops[j]?=some oj→(∀e∈oj.after,Region.binds .any e=true→listed.getD e.on false=true)→∀i∈m.getD j [],listed.getD i false=true:=by
 intro j
 induction j using Nat.strongRecOn with
 |_ j ih=>
  intro oj hj hall i hi
  obtain⟨e,he,hb,hor⟩:=hok.pred j oj hj i hi
  rcases hor with rfl|hor
  ·exact hall e he hb
  ·have hlt:=hok.back j oj hj e he hb
   have hjs:j<ops.size:=(Array.getElem?_eq_some_iff.1 hj).1
   have hoe:ops[e.on]?=some (ops[e.on]'(by omega)):=by simp
   exact ih e.on hlt _ hoe (hdown _ _ hoe (hall e he hb)) i hor
theorem yg{m:Array (List Nat)}(hok:uT kd ops m){Q':Exit→Act→World→Prop}(hQ:∀a w,Q a w→Q' .normal a w) :
  ∀(n:Nat) (L:List Nat) (listed:Array Bool) (a:Act) (w:World),L.length=n→L.Pairwise (· < ·)→listed.size=ops.size→(∀j,j∈L↔j<ops.size∧listed.getD j true=false)→
   (∀k o,ops[k]?=some o→listed.getD k false=true→∀e∈o.after,Region.binds .any e=true→listed.getD e.on false=true)→
   S w→aG P ops kd S Q (L.filterMap (ops[·]?)) a w→wpAny P .any ops Q' n listed a w:=by
 intro n
 induction n with
 |zero=>
  intro L listed a w hn _ hsz hL _ _ h
  have:L=[]:=List.eq_nil_of_length_eq_zero hn
  subst this
  refine⟨?_,hQ _ _ h⟩
  cases hr:Region.ready .any ops listed with
  |nil=>rfl
  |cons i r=>
   have hi:i∈Region.ready .any ops listed:=by rw[hr];simp
   obtain⟨h0,o,ho,_⟩:=mem_ready.1 hi
   have:=(hL i).2 ⟨(Array.getElem?_eq_some_iff.1 ho).1,h0⟩
   cases this
 |succ n ih=>
  intro L listed a w hn hsort hsz hL hdown hS h
  refine⟨fun hr=>?_,fun i hi=>?_⟩
  ·exfalso
   cases L with
   |nil=>simp at hn
   |cons j L=>
    obtain⟨hj,hjl⟩:=(hL j).1 (by simp)
    have hoj:ops[j]?=some ops[j]:=by simp[hj]
    have:j∈Region.ready .any ops listed:=by
     refine mem_ready.2 ⟨hjl,_,hoj,fun e he hb=>?_⟩
     have hlt:=hok.back j _ hoj e he hb
     have hnot:e.on∉j::L:=by
      intro hmem
      rcases List.mem_cons.1 hmem with h1|h1
      ·omega
      ·have:=(List.pairwise_cons.1 hsort).1 _ h1;omega
     have h2:listed.getD e.on true≠false:=fun hf=>hnot ((hL e.on).2 ⟨by omega,hf⟩)
     have hes:e.on<listed.size:=by omega
     simp[hes]at h2 ⊢;exact h2
    rw[hr]at this;cases this
  ·obtain⟨h0,o,ho,hall⟩:=mem_ready.1 hi
   have his:i<ops.size:=(Array.getElem?_eq_some_iff.1 ho).1
   have hiL:i∈L:=(hL i).2 ⟨his,h0⟩
   obtain⟨L1,L2,rfl⟩:=List.append_of_mem hiL
   have dW:=List.pairwise_append.1 hsort
   have hlt1:∀x∈L1,x<i:=fun x hx=>dW.2.2 x hx i (by simp)
   have hgt2:∀x∈L2,i<x:=fun x hx=>(List.pairwise_cons.1 dW.2.1).1 x hx
   rw[List.filterMap_append,List.filterMap_cons_some ho]at h
   have dh:=jE (P:=P) (ops:=ops) (S:=S) (kd:=kd) (Q:=Q) (Region.noSelect_spec hok.jy i o · · ho) (L1.filterMap (ops[·]?)) (fun x hx=>by
    obtain⟨k,hk,hox⟩:=List.mem_filterMap.1 hx
    have hkl:=((hL k).1 (by simp[hk])).2
    have hnl:¬listed.getD k false=true:=fun hf=>by rw[Ak hf]at hkl;cases hkl
    refine⟨(Region.noSelect_spec hok.jy k x · · hox),?_⟩
    rcases hok.pair i o ho k (hlt1 k hk) x hox with⟨e,he,hb,rfl⟩|⟨hap,hor⟩
    ·exact absurd (hall e he hb) hnl
    ·refine⟨hap,?_⟩
     rcases hor with h1|h1
     ·exact h1
     ·exact absurd (EP hok hdown i o ho hall k h1) hnl) a w hS h
   have hrest:∀a' w',S w'→aG P ops kd S Q (L1.filterMap (ops[·]?)++L2.filterMap (ops[·]?)) a' w'→wpAny P .any ops Q' n (listed.setIfInBounds i true) a' w':=by
    intro a' w' hS' hh
    rw[←List.filterMap_append]at hh
    refine ih (L1++L2) (listed.setIfInBounds i true) a' w' ?_ ?_ (by simpa using hsz) ?_ ?_ hS' hh
    ·simp at hn ⊢;omega
    ·exact List.pairwise_append.2 ⟨dW.1,(List.pairwise_cons.1 dW.2.1).2,fun x hx y hy=>dW.2.2 x hx y (by simp[hy])⟩
    ·intro j
     by_cases hji:j=i
     ·subst hji
      constructor
      ·intro hm
       exfalso
       rcases List.mem_append.1 hm with h1|h1
       ·have:=hlt1 _ h1;omega
       ·have:=hgt2 _ h1;omega
      ·rintro⟨_,hf⟩
       have:j<listed.size:=by omega
       simp[this]at hf
     ·rw[getD_set_ne true (Ne.symm hji),←hL j]
      simp[hji]
    ·intro k ok hk hkl e he hb
     by_cases hki:k=i
     ·subst hki
      rw[ho]at hk;cases hk
      exact getD_set_true (hall e he hb)
     ·rw[getD_set_ne false (Ne.symm hki)]at hkl
      exact getD_set_true (hdown k ok hk hkl e he hb)
   unfold wpOp
   simp only[ho]
   rw[bF]at dh
   split
   ·rename_i hw
    rw[if_pos hw]at dh
    refine .inl ?_
    by_cases hs:kd o<2
    ·rw[if_pos hs]at dh
     obtain⟨v,hv,hh⟩:=dh
     unfold Oper.wp
     rw[hv.here hS]
     exact hrest _ _ hS hh
    ·rw[if_neg hs]at dh
     exact wQ (Oper.wp_mono (fun a' w' hh=>hrest a' w' hh.1 hh.2) dh)
   ·rename_i hw
    rw[if_neg hw]at dh
    exact hrest _ _ hS dh
theorem BQ{id:Nat}{Q':Exit→Act→World→Prop}{a:Act}{w:World}{l:List Oper}(S:World→Prop)(kd:Oper→Nat)(hm:P.follows .mixedOrders=true)(hB:ny kd l.toArray=true)
  (hS:S w.drew) (h:aG P l.toArray kd S (fun a' w'=>Q' .normal a' w') l a w.drew):(Code.region id l.toArray true).wp P Q' a w:=by
 refine wp_region_any hm ?_
 have hfm:(List.range l.toArray.size).filterMap (l.toArray[·]?)=l:=by
  apply List.ext_getElem?
  intro i
  have:∀n,(List.range n).filterMap (fun i=>l.toArray[i]?)=l.take n:=by
   intro n
   induction n with
   |zero=>simp
   |succ n ih=>
    rw[List.range_succ,List.filterMap_append,ih]
    by_cases hn:n<l.length
    ·rw[List.take_succ_eq_append_getElem hn];simp[hn]
    ·simp[hn,List.take_of_length_le (show l.length≤n by omega),List.take_of_length_le (show l.length≤n+1 by omega)]
  rw[this];simp
 have:=yg (P:=P) (S:=S) (Q:=fun a' w'=>Q' .normal a' w') (BP hB) (Q':=Q') (fun _ _ h=>h) l.toArray.size (List.range l.toArray.size) (Array.replicate l.toArray.size false) a w.drew
  (by simp) List.pairwise_lt_range (by simp) (by intro j;simp;intro h;simp[h]) (by intro k o hk hkl;exfalso;rw[Array.getD_eq_getD_getElem?,Array.getElem?_replicate]at hkl;split at hkl<;>simp at hkl) hS (by rw[hfm];exact h)
 exact this
theorem bz{a:Act}{w:World}(h:Q a w):aG P ops kd S Q [] a w:=h
theorem ai{o:Oper}{rest:List Oper}{a:Act}{w:World}(hw:Region.wanted o (yielded ops a.tmps)=false)(h:aG P ops kd S Q rest (a.put o.dst undef) w):aG P ops kd S Q (o::rest) a w:=by
 rw[bF,if_neg (by simp[hw])];exact h
def kinds(o:Oper):Nat:=
 match o.op with
 | .load ..=>1
 |_=>if looks o then 0 else 2
theorem TM{o:Oper}(h:kinds o<2):looks o=true:=by
 unfold kinds at h
 split at h
 ·rename_i h';unfold looks;rw[h']
 ·split at h
  ·assumption
  ·omega
theorem au{o:Oper}{rest:List Oper}{a:Act}{w:World}(hw:Region.wanted o (yielded ops a.tmps)=true)(hs:kinds o=0)
  (h:∀K:Act→Prop,(∀a',aG P ops kinds S Q rest a' w→K a')→o.quiet P a S K):aG P ops kinds S Q (o::rest) a w:=by
 rw[bF,if_pos hw,if_pos (by omega)]
 obtain⟨v,hv,hh⟩:=h _ (fun _ x=>x)
 refine⟨v,?_,hh⟩
 unfold LV
 rw[if_pos hs]
 intro w' hw'
 have:=hv w' hw'
 unfold Oper.quietAt at this
 rcases BR (P:=P) (TM (o:=o) (by omega)) a.eval w' with⟨u,w'',e⟩|⟨x,w'',e⟩
 ·rw[e]at this ⊢
  obtain⟨rfl,rfl⟩:=this
  rfl
 ·rw[e]at this
  exact this.elim
theorem AX{o:Oper}{rest:List Oper}{a:Act}{w:World}(hw:Region.wanted o (yielded ops a.tmps)=true)(hs:kinds o=1)
  (h:∀K:Act→World→Prop,(∀a',aG P ops kinds S Q rest a' w→K a' w)→o.wp P a w K never):aG P ops kinds S Q (o::rest) a w:=by
 rw[bF,if_pos hw,if_pos (by omega)]
 have h':=h (fun a' w'=>w'=w∧aG P ops kinds S Q rest a' w) (fun _ x=>⟨rfl,x⟩)
 unfold Oper.wp at h'
 rcases BR (P:=P) (TM (o:=o) (by omega)) a.eval w with⟨u,w'',e⟩|⟨x,w'',e⟩
 ·rw[e]at h'
  obtain⟨rfl,hh⟩:=h'
  refine⟨u,?_,hh⟩
  unfold LV
  rw[if_neg (by omega)]
  exact e
 ·rw[e]at h'
  cases x<;>simp only[Oper.upon,never]at h'
theorem aB{o:Oper}{rest:List Oper}{a:Act}{w:World}(hw:Region.wanted o (yielded ops a.tmps)=true)(hs:kinds o=2)
  (h:∀K:Act→World→Prop,(∀a' w',S w'→aG P ops kinds S Q rest a' w'→K a' w')→o.wp P a w K never):aG P ops kinds S Q (o::rest) a w:=by
 rw[bF,if_pos hw,if_neg (by omega)]
 exact h _ (fun _ _ x y=>⟨x,y⟩)
end
theorem TN{P:Program}{id:Nat}{Q':Exit→Act→World→Prop}{a:Act}{W w:World}{l:List Oper}(S:Nat→Prop)(hW:But S W w)(hm:P.follows .mixedOrders=true)(hB:ny kinds l.toArray=true)
  (h:aG P l.toArray kinds (uU S W) (fun a' w'=>Q' .normal a' w') l a w.drew):(Code.region id l.toArray true).wp P Q' a w:=
 BQ (uU S W) kinds hm hB ⟨⟨w.drew,hW.drew⟩,rfl⟩ h
end Go.WW.T3
namespace Go.WW
open Go.RowKit
structure kV(g:Nat)(X Y:List EE)(w0 w:World):Prop where
 perm:Y.Perm X
 but:But (·=g) w0 w
 rows:gz w (some ⟨g,0,none⟩) Y
 opn:Open w g (Y.length*17)
theorem kV.step{g:Nat}{X Y:List EE}{w0 w w':World}(h:kV g X Y w0 w)(hb:Below w.heap.size w w'):kV g X Y w0 w':=by
 refine⟨h.perm,h.but.trans (But.of_below hb),h.rows.later hb,h.opn.at ?_⟩
 obtain⟨c,t,hc,_⟩:=h.opn
 exact hb.block g (Array.getElem?_eq_some_iff.1 hc).1
theorem kV.drew{g:Nat}{X Y:List EE}{w0 w:World}(h:kV g X Y w0 w):kV g X Y w0 w.drew:=h.step (Below.refl _ _).drew
theorem kV.swap{g:Nat}{X Y:List EE}{w0 w:World}(h:kV g X Y w0 w){j:Nat}(h1:j+1<Y.length):kV g X ((Y.set (j+1) Y[j]).set j Y[j+1]) w0 (putRow (putRow w g ((j+1)*17) (cZ Y[j])) g (j*17) (cZ Y[j+1])):=by
 have r1:=h.rows.put h.opn h1 Y[j]
 have s1:=Gi Y[j]
 have s2:=Gi Y[j+1]
 have o1:Open (putRow w g (0+(j+1)*17) (cZ Y[j])) g (Y.length*17):=h.opn.put (by omega)
 have r2:=r1.put (by simpa using o1) (i:=j) (by simp;omega) Y[j+1]
 rw[Nat.zero_add]at r2 o1
 rw[Nat.zero_add]at r2
 exact⟨(swap_perm h1).trans h.perm,(h.but.put rfl).put rfl,r2,by simpa using o1.put (by omega)⟩
end Go.WW
namespace Go.Proofs.YtpfifochimkpfaaGreatDoor
open Go.RowKit Go.WW
theorem afs(g cap:Nat)(X:List EE)(w:World)(hn:X.length≤12)(hX:kV g X X w w)(hD:(X.map eH).Nodup)(hN:∀y,But (·=g) w y→∀x∈X,bK y x.1.parts x.2.name) :
  Calls Tryz.prog 225 #[.slice (some ⟨g,0,none⟩) X.length cap,.int .i64 0,.int .i64 X.length,.func (.func 88) #[] #[]] w fun e w'=>e=.returned (.tuple #[])∧∃Y,kV g X Y w w'∧Sorted fB eH Y:=by
 have HF:=Lib.hid hN
 have HD:=Lib.hid hD
 clear hN hD
 go_enter Tryz.func225,Tryz.ntmps225
 go_wp2_with fail
 go_loopw [8] (fun iv wr=>∃(i:Nat) (Y:List EE),1≤i∧i≤13∧iv=.int .i64 i∧Hid (kV g X Y w wr)∧Hid (Sorted fB eH (Y.take i))) (fun iv _=>13-(intOf iv).toNat)
 case atStart=>exact⟨1,X,Nat.le_refl _,by omega,rfl,hX,by cases X<;>simp[Hid,Sorted]⟩
 case round=>
  obtain⟨i,Y,h1,h13,rfl,hS,hso⟩:=hrel
  have HL:=Lib.hid (hS.out.perm.length_eq)
  by_cases hlt:i<X.length
  ·have hki:(i:Int)<(X.length:Int):=by omega
   have HM:=Lib.hid (TF hso.out (by rw[HL.out];exact hlt))
   go_wp2_with fail
   clear hso HL
   go_loopw [9] (fun jv wr=>∃(j:Nat) (Y:List EE),j≤i∧jv=.int .i64 j∧Hid (kV g X Y w wr)∧Hid (Mid fB eH Y i j)) (fun jv _=>(intOf jv).toNat)
   case atStart=>exact⟨i,Y,Nat.le_refl _,rfl,hS,HM⟩
   case round=>
    clear hS HM
    obtain⟨j,Y,hj,rfl,hS,hM⟩:=hrel
    have HL:=Lib.hid (hS.out.perm.length_eq)
    cases j with
    |zero=>
     have HZ:=Lib.hid (mid_zero hM.out)
     go_wp2_with fail
     refine dN (Below.refl _ wr) (by kernel_rfl) (by kernel_rfl) ?_
     repeat (go_big_quiet_step (fail))
     refine wpQuiet_nil ?_
     intro w2 hb2
     have HS2:=Lib.hid (hS.out.step hb2)
     go_wp2_with fail
     go_roundw
     case rel=>exact⟨i+1,Y,by omega,by omega,by go_num,HS2.out,HZ.out⟩
     case measure=>simp[intOf];omega
    |succ j=>
     have hjl:j+1<Y.length:=by rw[HL.out];omega
     have hji:(0:Int)<((j+1:Nat):Int):=by omega
     have yJ:((j+1:Nat):Int)<(X.length:Int):=by omega
     have hr1:=hS.out.rows.at (j+1) hjl
     have hr0:=hS.out.rows.at j (by omega)
     have hN1:=Lib.hid (fun y hy=>HF.out y (hS.out.but.trans (But.of_below hy)) Y[j+1] (hS.out.perm.mem_iff.1 (List.getElem_mem hjl)))
     have hN0:=Lib.hid (fun y hy=>HF.out y (hS.out.but.trans (But.of_below hy)) Y[j] (hS.out.perm.mem_iff.1 (List.getElem_mem (by omega))))
     rw[Nat.zero_add]at hr1 hr0
     have hgw:g<wr.heap.size:=fA hr1
     by_cases hc:fB Y[j+1].2.name Y[j].2.name<0
     ·have pg:=Lib.hid (mid_step hM.out hjl hc)
      have HS2:=Lib.hid (fun w2 hb2=>((hS.out.step (w':=w2) hb2)).drew.swap hjl)
      generalize Y[j+1]=x at *
      generalize Y[j]=z at *
      go_wp2_with fail
      refine dN (Below.refl _ wr) (by kernel_rfl) (by kernel_rfl) ?_
      repeat (go_big_quiet_step ((go_at_call 88;rename_i xw;exact Calls.iq (TE _ _ _ _ _ (hN1.out _ xw.b) (hN0.out _ xw.b)))))
      refine wpQuiet_nil ?_
      intro w2 hb2
      go_wp2_with fail
      have hr1':row? w2 g ((j+1)*17) 17=some (ae x.1 x.2):=(fG (hb2.block g hgw) _ _).trans hr1
      have aft:row? w2 g (j*17) 17=some (ae z.1 z.2):=(fG (hb2.block g hgw) _ _).trans hr0
      have HO:=Lib.hid (hS.out.step hb2).opn
      have hp1:aX w2 g ((j+1)*17) 17=true:=HO.out.can (by omega)
      have hp0:aX (putRow w2.drew g ((j+1)*17) (ae z.1 z.2)) g (j*17) 17=true:=Open.can (n:=Y.length*17) (Open.put (HO.out.at rfl) (by show(j+1)*17+17≤_;omega)) (by omega)
      have Dl:Hid (kV g X ((Y.set (j+1) z).set j x) w (putRow (putRow w2.drew g ((j+1)*17) (ae z.1 z.2)) g (j*17) (ae x.1 x.2))):=HS2.out w2 hb2
      clear hr1 hr0 HS2 hN1 hN0 HO
      refine T3.TN (·=g) (But.refl _ w2) (by kernel_rfl) (by kernel_rfl) ?_
      repeat (first|(refine T3.ai (by rfl) ?_)|(refine T3.au (by rfl) (by rfl) (fun K hK=>?_);go_big_quiet_op;refine hK _ ?_;clear hK K)|(refine T3.AX (by rfl) (by rfl) (fun K hK=>?_);go_wp2_with fail))
      refine T3.aB (by rfl) (by rfl) (fun K hK=>?_)
      go_wp2_with fail
      have HB1:=Lib.hid (But.put (g:=g) (o:=(j+1)*17) (cs:=ae z.1 z.2) (S:=(·=g)) (But.refl _ w2).drew rfl)
      generalize putRow w2.drew g ((j+1)*17) (ae z.1 z.2)=V at *
      refine hK _ _ (fU HB1.out) ?_
      clear hK K
      repeat (first|(refine T3.ai (by rfl) ?_)|(refine T3.au (by rfl) (by rfl) (fun K hK=>?_);go_big_quiet_op;refine hK _ ?_;clear hK K)|(refine T3.AX (by rfl) (by rfl) (fun K hK=>?_);go_wp2_with fail))
      refine T3.aB (by rfl) (by rfl) (fun K hK=>?_)
      go_wp2_with fail
      have HB2:=Lib.hid (But.put (g:=g) (o:=j*17) (cs:=ae x.1 x.2) HB1.out rfl)
      generalize putRow V g (j*17) (ae x.1 x.2)=U at *
      refine hK _ _ (fU HB2.out) ?_
      clear hK K
      repeat (first|(refine T3.ai (by rfl) ?_)|(refine T3.au (by rfl) (by rfl) (fun K hK=>?_);go_big_quiet_op;refine hK _ ?_;clear hK K)|(refine T3.AX (by rfl) (by rfl) (fun K hK=>?_);go_wp2_with fail))
      refine T3.bz ?_
      go_wp2_with fail
      go_roundw
      case rel=>exact⟨j,(Y.set (j+1) z).set j x,by omega,rfl,Dl,pg⟩
      case measure=>simp[intOf]
     ·have HZ:=Lib.hid (TG Ju hM.out hjl ((hS.out.perm.map eH).nodup_iff.2 HD.out) hc)
      generalize Y[j+1]=x at *
      generalize Y[j]=z at *
      go_wp2_with fail
      refine dN (Below.refl _ wr) (by kernel_rfl) (by kernel_rfl) ?_
      repeat (go_big_quiet_step ((go_at_call 88;rename_i xw;exact Calls.iq (TE _ _ _ _ _ (hN1.out _ xw.b) (hN0.out _ xw.b)))))
      refine wpQuiet_nil ?_
      intro w2 hb2
      have HS2:=Lib.hid (hS.out.step hb2)
      go_wp2_with fail
      go_roundw
      case rel=>exact⟨i+1,Y,by omega,by omega,by go_num,HS2.out,HZ.out⟩
      case measure=>simp[intOf];omega
  ·have hki:¬(i:Int)<(X.length:Int):=by omega
   go_wp2_with fail
   go_end0
   exact⟨rfl,Y,hS.out,by have:=hso.out;rwa[List.take_of_length_le (by rw[HL.out];omega)]at this⟩
end Go.Proofs.YtpfifochimkpfaaGreatDoor
namespace Go.WW.TI
open Go.RowKit
section
variable {F:Fence} {P:Program} {ops:Array Oper} {S:World→Prop} {st:Oper→Bool} {Q:Act→World→Prop}
def aG(F:Fence)(P:Program)(ops:Array Oper)(st:Oper→Bool)(S:World→Prop)(Q:Act→World→Prop):List Oper→Act→World→Prop
 | [],a,w=>Q a w
 |o::rest,a,w=>
  if Region.wanted o (yielded ops a.tmps)then
   if st o then ∃v,(∀w',S w'→(execOp a.eval o).run P w'=.ok (.value v) w')∧aG F P ops st S Q rest (a.put o.dst v) w
   else o.wpIn F 0 P a w (fun a' w'=>S w'∧aG F P ops st S Q rest a' w') never
  else aG F P ops st S Q rest (a.put o.dst undef) w
def AY(o:Oper):Bool:=match o.op with | .defer _=>true|_=>false
def Gj(l:List Oper):Bool:=l.all fun o=>!AY o
theorem afu{l:List Oper}(h:Gj l=true):∀(i:Nat) (o:Oper),l.toArray[i]?=some o→∀c,o.op≠.defer c:=by
 intro i o ho c hc
 have hm:o∈l:=List.mem_of_getElem? (by simpa using ho)
 have:=(List.all_eq_true.1 h) o hm
 simp[AY,hc]at this
theorem wQ{o:Oper}{a:Act}{w:World}{K:Act→World→Prop}{Q':Exit→Act→World→Prop}(h:o.wpIn F 0 P a w K never):o.wpIn F 0 P a w K Q':=by
 unfold Oper.wpIn at *
 refine⟨h.1,?_⟩
 have h:=h.2
 generalize (o.semAt F.round a.eval).run P w=r at *
 cases r with
 |ok n w'=>
  cases n<;>simp only[Oper.uponIn]at h ⊢<;>
   first
    |exact h
    |exact⟨h.1,CallsIn.mono h.2 (fun e w'' he=>by cases e<;>first|exact he|exact he.elim|(obtain⟨_,_,he⟩:=he;exact he.elim))⟩
    |exact⟨h.1,RoundIn.mono h.2 (fun e w'' he=>by cases e<;>first|exact he|exact he.elim|(obtain⟨_,_,he⟩:=he;exact he.elim))⟩
 |halt x w'=>cases x<;>simp only[Oper.uponIn,never]at h ⊢
theorem sQ{o:Oper}{a:Act}{w:World}{K:Act→World→Prop}(h:o.wpIn F 0 P a w K never) :
  o.wpIn F 0 P a w (fun a' w'=>(∃u ds,a'=({a with defers:=ds}:Act).put o.dst u)∧K a' w') never:=by
 unfold Oper.wpIn at *
 refine⟨h.1,?_⟩
 have h:=h.2
 generalize (o.semAt F.round a.eval).run P w=r at *
 cases r with
 |ok n w'=>
  cases n<;>simp only[Oper.uponIn]at h ⊢<;>
   first
    |exact⟨⟨_,a.defers,rfl⟩,h⟩
    |exact⟨⟨_,_,rfl⟩,h⟩
    |exact⟨h.1,CallsIn.mono h.2 (fun e w'' he=>by cases e<;>first|exact⟨⟨_,a.defers,rfl⟩,he⟩|exact he)⟩
    |exact⟨h.1,RoundIn.mono h.2 (fun e w'' he=>by cases e<;>first|exact⟨⟨_,a.defers,rfl⟩,he⟩|exact he)⟩
    |exact⟨h.1,RowsIn.mono h.2 (fun _ _ he=>⟨⟨_,a.defers,rfl⟩,he⟩)⟩
    |exact h
 |halt x w'=>cases x<;>simp only[Oper.uponIn,never]at h ⊢
theorem EO(hd:F.depth=none){o:Oper}{a:Act}{w:World}{K:Act→World→Prop}(h:o.wpIn F 0 P a w K never):∃a' w',K a' w':=by
 have hroom:∀n,F.room n:=fun n d e=>by rw[hd]at e;cases e
 unfold Oper.wpIn at *
 have h:=h.2
 generalize (o.semAt F.round a.eval).run P w=r at *
 cases r with
 |ok n w'=>
  cases n<;>simp only[Oper.uponIn]at h<;>
   first
    |exact⟨_,_,h⟩
    |(obtain⟨e,w'',fr,hR,_⟩:=h.2.2 [] (hroom _)
      cases e with
      |returned v=>exact⟨_,_,hR⟩
      |panicked c=>exact hR.elim
      |outgrown=>obtain⟨_,_,hR⟩:=hR;exact hR.elim)
    |(obtain⟨e,w'',hR,_⟩:=h.2.2 default [] (hroom _)
      cases e with
      |returned v=>exact⟨_,_,hR⟩
      |panicked c=>exact hR.elim
      |outgrown=>obtain⟨_,_,hR⟩:=hR;exact hR.elim)
    |(obtain⟨v,w'',hR,_⟩:=h.2 default [] (hroom _);exact⟨_,_,hR⟩)
    |exact h.elim
 |halt x w'=>cases x<;>simp only[Oper.uponIn,never]at h
theorem nZ(hF:∀f,F.fn f){o:Oper}{a:Act}{w:World}{K:Act→World→Prop}{dst:Option Tmp}{v:Value}(hnd:∀c,o.op≠.defer c)(hs:∀cs b,o.op≠.select cs b)
  (h1:∀d,dst=some d→d∉o.looksAt ops) (h2:∀d,dst=some d→o.dst≠some d) :
  o.wpIn F 0 P (a.put dst v) w K never↔o.wpIn F 0 P a w (fun a' w'=>K (a'.put dst v) w') never:=by
 unfold Oper.wpIn
 rw[Oper.semAt_eq _ _ _ hnd,Oper.semAt_eq _ _ _ hnd,execOp_put o hs a dst v h1]
 generalize (execOp a.eval o).run P w=r
 have hc:∀(b:Act) u,(b.put dst v).put o.dst u=(b.put o.dst u).put dst v:=fun b u=>Act.put_comm b v u h2
 have hd:∀d,({a.put dst v with defers:=d::(a.put dst v).defers}:Act)=({a with defers:=d::a.defers}:Act).put dst v:=fun d=>Act.put_defers a dst v d
 refine and_congr ⟨fun _ f _=>hF f,fun _ f _=>hF f⟩ ?_
 cases r with
 |ok n w'=>
  cases n<;>simp only[Oper.uponIn,hc,hd]
 |halt x w'=>cases x<;>simp only[Oper.uponIn]
theorem bF(o:Oper)(rest:List Oper)(a:Act)(w:World):aG F P ops st S Q (o::rest) a w =
  (if Region.wanted o (yielded ops a.tmps)then
   if st o then ∃v,(∀w',S w'→(execOp a.eval o).run P w'=.ok (.value v) w')∧aG F P ops st S Q rest (a.put o.dst v) w
   else o.wpIn F 0 P a w (fun a' w'=>S w'∧aG F P ops st S Q rest a' w') never
  else aG F P ops st S Q rest (a.put o.dst undef) w):=rfl
theorem PK{l:List Oper}{Q':Act→World→Prop}(h:∀a w,Q a w→Q' a w):∀{a w},aG F P ops st S Q l a w→aG F P ops st S Q' l a w:=by
 induction l with
 |nil=>exact fun hh=>h _ _ hh
 |cons o l ih=>
  intro a w hh
  rw[bF]at *
  split
  ·rename_i hw
   simp only[hw,if_true]at hh
   split
   ·rename_i hs
    simp only[hs,if_true]at hh
    obtain⟨v,h1,h2⟩:=hh
    exact⟨v,h1,ih h2⟩
   ·rename_i hs
    simp only[hs]at hh
    exact Oper.wpIn_mono (fun a' w' ⟨x,y⟩=>⟨x,ih y⟩) hh
  ·rename_i hw
   simp only[hw]at hh
   exact ih hh
theorem Ai{o:Oper}{M M':List Oper}{a:Act}{w:World}(hS:S w)(h:∀a' w',S w'→aG F P ops st S Q M a' w'→aG F P ops st S Q M' a' w')
  (hh:aG F P ops st S Q (o::M) a w):aG F P ops st S Q (o::M') a w:=by
 rw[bF]at *
 split
 ·rename_i hw
  simp only[hw,if_true]at hh
  split
  ·rename_i hs
   simp only[hs,if_true]at hh
   obtain⟨v,h1,h2⟩:=hh
   exact⟨v,h1,h _ _ hS h2⟩
  ·rename_i hs
   simp only[hs]at hh
   exact Oper.wpIn_mono (fun a' w' ⟨x,y⟩=>⟨x,h _ _ x y⟩) hh
 ·rename_i hw
  simp only[hw]at hh
  exact h _ _ hS hh
theorem Aj(hF:∀f,F.fn f)(hdp:F.depth=none){x o:Oper}{L:List Oper}{a:Act}{w:World}(hxd:∀c,x.op≠.defer c)(hod:∀c,o.op≠.defer c)(hx:∀cs b,x.op≠.select cs b)(ho:∀cs b,o.op≠.select cs b)
  (hap:x.apart ops o=true) (hst:st x=true∨st o=true) (h:aG F P ops st S Q (x::o::L) a w):aG F P ops st S Q (o::x::L) a w:=by
 obtain⟨h1,h2,h3⟩:=Oper.apart_spec hap
 have h2':∀d,o.dst=some d→x.dst≠some d:=fun d hd hxd=>h2 d hxd hd
 have wo:∀(b:Act) v,Region.wanted o (yielded ops (b.put x.dst v).tmps)=Region.wanted o (yielded ops b.tmps):=fun b v=>wanted_put o b x.dst v h1
 have wx:∀(b:Act) v,Region.wanted x (yielded ops (b.put o.dst v).tmps)=Region.wanted x (yielded ops b.tmps):=fun b v=>wanted_put x b o.dst v h3
 have eo:∀(b:Act) v,execOp (b.put x.dst v).eval o=execOp b.eval o:=fun b v=>execOp_put o ho b x.dst v h1
 have ex:∀(b:Act) v,execOp (b.put o.dst v).eval x=execOp b.eval x:=fun b v=>execOp_put x hx b o.dst v h3
 have hc:∀(b:Act) v u,(b.put x.dst v).put o.dst u=(b.put o.dst u).put x.dst v:=fun b v u=>Act.put_comm b v u h2
 rw[bF]at h ⊢
 by_cases hwx:Region.wanted x (yielded ops a.tmps)=true
 ·rw[if_pos hwx]at h
  by_cases hsx:st x=true
  ·rw[if_pos hsx]at h
   obtain⟨v,hv,h⟩:=h
   rw[bF,wo,eo]at h
   by_cases hwo:Region.wanted o (yielded ops a.tmps)=true
   ·rw[if_pos hwo]at h ⊢
    by_cases hso:st o=true
    ·rw[if_pos hso]at h ⊢
     obtain⟨u,hu,h⟩:=h
     refine⟨u,hu,?_⟩
     rw[bF,wx,if_pos hwx,if_pos hsx,ex]
     exact⟨v,hv,by rw[←hc];exact h⟩
    ·rw[if_neg hso]at h ⊢
     have h':=sQ ((nZ hF hod ho h1 h2).1 h)
     refine Oper.wpIn_mono ?_ h'
     rintro a' w' ⟨⟨u,ds,rfl⟩,hS',h⟩
     refine⟨hS',?_⟩
     rw[bF,wx,show Region.wanted x (yielded ops ({a with defers:=ds}:Act).tmps)=true from hwx,if_pos rfl,if_pos hsx,ex]
     exact⟨v,hv,h⟩
   ·rw[if_neg hwo]at h ⊢
    rw[bF,wx,if_pos hwx,if_pos hsx,ex]
    exact⟨v,hv,by rw[←hc];exact h⟩
  ·have hso:st o=true:=hst.resolve_left hsx
   rw[if_neg hsx]at h
   have h':=sQ h
   by_cases hwo:Region.wanted o (yielded ops a.tmps)=true
   ·rw[if_pos hwo,if_pos hso]
    have key:∀a' w',((∃u ds,a'=({a with defers:=ds}:Act).put x.dst u)∧S w'∧aG F P ops st S Q (o::L) a' w')→
      ∃v,(∀w',S w'→(execOp a.eval o).run P w'=.ok (.value v) w')∧S w'∧aG F P ops st S Q L (a'.put o.dst v) w':=by
     rintro a' w' ⟨⟨u,ds,rfl⟩,hS',hh⟩
     rw[bF,wo,show Region.wanted o (yielded ops ({a with defers:=ds}:Act).tmps)=true from hwo,if_pos rfl,if_pos hso,eo]at hh
     obtain⟨v,hv,hh⟩:=hh
     exact⟨v,hv,hS',hh⟩
    obtain⟨a1,w1,h1'⟩:=EO hdp h'
    obtain⟨v,hv,_⟩:=key _ _ h1'
    refine⟨v,hv,?_⟩
    rw[bF,wx,if_pos hwx,if_neg hsx,nZ hF hxd hx h3 h2']
    refine Oper.wpIn_mono ?_ h'
    intro a' w' hh
    obtain⟨v',hv',hS',hh⟩:=key _ _ hh
    have e:v'=v:=by
     have:=(hv' _ hS').symm.trans (hv _ hS')
     simpa using this
    subst e
    exact⟨hS',hh⟩
   ·rw[if_neg hwo,bF,wx,if_pos hwx,if_neg hsx,nZ hF hxd hx h3 h2']
    refine Oper.wpIn_mono ?_ h'
    rintro a' w' ⟨⟨u,ds,rfl⟩,hS',hh⟩
    rw[bF,wo,show Region.wanted o (yielded ops ({a with defers:=ds}:Act).tmps)=false from by simpa using hwo,if_neg (by simp)]at hh
    exact⟨hS',hh⟩
 ·rw[if_neg hwx]at h
  rw[bF,wo,eo]at h
  by_cases hwo:Region.wanted o (yielded ops a.tmps)=true
  ·rw[if_pos hwo]at h ⊢
   by_cases hso:st o=true
   ·rw[if_pos hso]at h ⊢
    obtain⟨u,hu,h⟩:=h
    refine⟨u,hu,?_⟩
    rw[bF,wx,if_neg hwx,←hc]
    exact h
   ·rw[if_neg hso]at h ⊢
    have h':=sQ ((nZ hF hod ho h1 h2).1 h)
    refine Oper.wpIn_mono ?_ h'
    rintro a' w' ⟨⟨u,ds,rfl⟩,hS',h⟩
    refine⟨hS',?_⟩
    rw[bF,wx,show Region.wanted x (yielded ops ({a with defers:=ds}:Act).tmps)=false from by simpa using hwx,if_neg (by simp)]
    exact h
  ·rw[if_neg hwo]at h ⊢
   rw[bF,wx,if_neg hwx,←hc]
   exact h
theorem jE(hF:∀f,F.fn f)(hdp:F.depth=none){o:Oper}{L2:List Oper}(hod:∀c,o.op≠.defer c)(ho:∀cs b,o.op≠.select cs b):∀(L1:List Oper),(∀x∈L1,((∀c,x.op≠.defer c)∧∀cs b,x.op≠.select cs b)∧x.apart ops o=true∧(st x=true∨st o=true))→
  ∀(a:Act) (w:World),S w→aG F P ops st S Q (L1++o::L2) a w→aG F P ops st S Q (o::(L1++L2)) a w
 | [],_,_,_,_,h=>h
 |x::L1,hall,a,w,hS,h=>by
  have hx:=hall x (by simp)
  refine Aj hF hdp hx.1.1 hod hx.1.2 ho hx.2.1 hx.2.2 ?_
  exact Ai hS (fun a' w' hS' hh=>jE hF hdp hod ho L1 (fun y hy=>hall y (by simp[hy])) a' w' hS' hh) h
theorem yg(hF:∀f,F.fn f)(hdp:F.depth=none)(hnd:∀(i:Nat) (o:Oper),ops[i]?=some o→∀c,o.op≠.defer c){m:Array (List Nat)}(hok:uT st ops m){Q':Exit→Act→World→Prop}(hQ:∀a w,Q a w→Q' .normal a w) :
  ∀(n:Nat) (L:List Nat) (listed:Array Bool) (a:Act) (w:World),L.length=n→L.Pairwise (· < ·)→listed.size=ops.size→(∀j,j∈L↔j<ops.size∧listed.getD j true=false)→
   (∀k o,ops[k]?=some o→listed.getD k false=true→∀e∈o.after,Region.binds .any e=true→listed.getD e.on false=true)→
   S w→aG F P ops st S Q (L.filterMap (ops[·]?)) a w→wpAnyIn F 0 P .any ops Q' n listed a w:=by
 intro n
 induction n with
 |zero=>
  intro L listed a w hn _ hsz hL _ _ h
  have:L=[]:=List.eq_nil_of_length_eq_zero hn
  subst this
  refine⟨?_,hQ _ _ h⟩
  cases hr:Region.ready .any ops listed with
  |nil=>rfl
  |cons i r=>
   have hi:i∈Region.ready .any ops listed:=by rw[hr];simp
   obtain⟨h0,o,ho,_⟩:=mem_ready.1 hi
   have:=(hL i).2 ⟨(Array.getElem?_eq_some_iff.1 ho).1,h0⟩
   cases this
 |succ n ih=>
  intro L listed a w hn hsort hsz hL hdown hS h
  refine⟨fun hr=>?_,fun i hi=>?_⟩
  ·exfalso
   cases L with
   |nil=>simp at hn
   |cons j L=>
    obtain⟨hj,hjl⟩:=(hL j).1 (by simp)
    have hoj:ops[j]?=some ops[j]:=by simp[hj]
    have:j∈Region.ready .any ops listed:=by
     refine mem_ready.2 ⟨hjl,_,hoj,fun e he hb=>?_⟩
     have hlt:=hok.back j _ hoj e he hb
     have hnot:e.on∉j::L:=by
      intro hmem
      rcases List.mem_cons.1 hmem with h1|h1
      ·omega
      ·have:=(List.pairwise_cons.1 hsort).1 _ h1;omega
     have h2:listed.getD e.on true≠false:=fun hf=>hnot ((hL e.on).2 ⟨by omega,hf⟩)
     have hes:e.on<listed.size:=by omega
     simp[hes]at h2 ⊢;exact h2
    rw[hr]at this;cases this
  ·obtain⟨h0,o,ho,hall⟩:=mem_ready.1 hi
   have his:i<ops.size:=(Array.getElem?_eq_some_iff.1 ho).1
   have hiL:i∈L:=(hL i).2 ⟨his,h0⟩
   obtain⟨L1,L2,rfl⟩:=List.append_of_mem hiL
   have dW:=List.pairwise_append.1 hsort
   have hlt1:∀x∈L1,x<i:=fun x hx=>dW.2.2 x hx i (by simp)
   have hgt2:∀x∈L2,i<x:=fun x hx=>(List.pairwise_cons.1 dW.2.1).1 x hx
   rw[List.filterMap_append,List.filterMap_cons_some ho]at h
   have dh:=jE hF hdp (P:=P) (ops:=ops) (S:=S) (st:=st) (Q:=Q) (hnd i o ho) (Region.noSelect_spec hok.jy i o · · ho) (L1.filterMap (ops[·]?)) (fun x hx=>by
    obtain⟨k,hk,hox⟩:=List.mem_filterMap.1 hx
    have hkl:=((hL k).1 (by simp[hk])).2
    have hnl:¬listed.getD k false=true:=fun hf=>by rw[Ak hf]at hkl;cases hkl
    refine⟨⟨hnd k x hox,(Region.noSelect_spec hok.jy k x · · hox)⟩,?_⟩
    rcases hok.pair i o ho k (hlt1 k hk) x hox with⟨e,he,hb,rfl⟩|⟨hap,hor⟩
    ·exact absurd (hall e he hb) hnl
    ·refine⟨hap,?_⟩
     rcases hor with h1|h1|h1
     ·exact .inl h1
     ·exact .inr h1
     ·exact absurd (EP hok hdown i o ho hall k h1) hnl) a w hS h
   have hrest:∀a' w',S w'→aG F P ops st S Q (L1.filterMap (ops[·]?)++L2.filterMap (ops[·]?)) a' w'→wpAnyIn F 0 P .any ops Q' n (listed.setIfInBounds i true) a' w':=by
    intro a' w' hS' hh
    rw[←List.filterMap_append]at hh
    refine ih (L1++L2) (listed.setIfInBounds i true) a' w' ?_ ?_ (by simpa using hsz) ?_ ?_ hS' hh
    ·simp at hn ⊢;omega
    ·exact List.pairwise_append.2 ⟨dW.1,(List.pairwise_cons.1 dW.2.1).2,fun x hx y hy=>dW.2.2 x hx y (by simp[hy])⟩
    ·intro j
     by_cases hji:j=i
     ·subst hji
      constructor
      ·intro hm
       exfalso
       rcases List.mem_append.1 hm with h1|h1
       ·have:=hlt1 _ h1;omega
       ·have:=hgt2 _ h1;omega
      ·rintro⟨_,hf⟩
       have:j<listed.size:=by omega
       simp[this]at hf
     ·rw[getD_set_ne true (Ne.symm hji),←hL j]
      simp[hji]
    ·intro k ok hk hkl e he hb
     by_cases hki:k=i
     ·subst hki
      rw[ho]at hk;cases hk
      exact getD_set_true (hall e he hb)
     ·rw[getD_set_ne false (Ne.symm hki)]at hkl
      exact getD_set_true (hdown k ok hk hkl e he hb)
   unfold wpOpIn
   simp only[ho]
   rw[bF]at dh
   split
   ·rename_i hw
    rw[if_pos hw]at dh
    by_cases hs:st o=true
    ·rw[if_pos hs]at dh
     obtain⟨v,hv,hh⟩:=dh
     unfold Oper.wpIn
     refine⟨fun f _=>hF f,?_⟩
     rw[Oper.semAt_eq _ _ _ (hnd i o ho),hv w hS]
     exact hrest _ _ hS hh
    ·rw[if_neg hs]at dh
     exact wQ (Oper.wpIn_mono (fun a' w' hh=>hrest a' w' hh.1 hh.2) dh)
   ·rename_i hw
    rw[if_neg hw]at dh
    exact⟨fun f _=>hF f,hrest _ _ hS dh⟩
theorem TP(hF:∀f,F.fn f)(hdp:F.depth=none){id:Nat}{Q':Exit→Act→World→Prop}{a:Act}{w:World}{l:List Oper}(S:World→Prop)(st:Oper→Bool)(hm:P.follows .mixedOrders=true)(hB:ny st l.toArray=true)(hnd:Gj l=true)
  (hS:S w.drew) (h:aG F P l.toArray st S (fun a' w'=>Q' .normal a' w') l a w.drew):(Code.region id l.toArray true).wpIn F 0 P Q' a w:=by
 refine wpIn_region_any hm ?_
 have hfm:(List.range l.toArray.size).filterMap (l.toArray[·]?)=l:=by
  apply List.ext_getElem?
  intro i
  have:∀n,(List.range n).filterMap (fun i=>l.toArray[i]?)=l.take n:=by
   intro n
   induction n with
   |zero=>simp
   |succ n ih=>
    rw[List.range_succ,List.filterMap_append,ih]
    by_cases hn:n<l.length
    ·rw[List.take_succ_eq_append_getElem hn];simp[hn]
    ·simp[hn,List.take_of_length_le (show l.length≤n by omega),List.take_of_length_le (show l.length≤n+1 by omega)]
  rw[this];simp
 have:=yg hF hdp (afu hnd) (P:=P) (S:=S) (Q:=fun a' w'=>Q' .normal a' w') (BP hB) (Q':=Q') (fun _ _ h=>h) l.toArray.size (List.range l.toArray.size) (Array.replicate l.toArray.size false) a w.drew
  (by simp) List.pairwise_lt_range (by simp) (by intro j;simp;intro h;simp[h]) (by intro k o hk hkl;exfalso;rw[Array.getD_eq_getD_getElem?,Array.getElem?_replicate]at hkl;split at hkl<;>simp at hkl) hS (by rw[hfm];exact h)
 exact this
theorem TQ{l:Nat}{o:Oper}{a:Act}{w:World}{K:Act→World→Prop}(hnd:∀c,o.op≠.defer c)(h:o.wp P a w K never):o.wpIn (Fence.wide.inRound l) 0 P a w K never:=by
 unfold Oper.wpIn
 refine⟨fun f _=>trivial,?_⟩
 rw[Oper.semAt_eq _ _ _ hnd]
 unfold Oper.wp at h
 generalize (execOp a.eval o).run P w=r at *
 cases r with
 |ok n w'=>
  cases n<;>simp only[Oper.upon,Oper.uponIn]at h ⊢<;>
   first
    |exact h
    |exact⟨fun e=>(by cases e),(callsIn_wide (n:=0)).2 h⟩
    |exact⟨fun e=>(by cases e),fun c cs _=>let⟨v,w'',hR,hs⟩:=h c cs;⟨v,w'',hR,stepsIn_wide.2 hs⟩⟩
    |exact h.elim
 |halt x w'=>cases x<;>simp only[Oper.upon,never]at h ⊢
theorem bz{a:Act}{w:World}(h:Q a w):aG F P ops st S Q [] a w:=h
theorem ai{o:Oper}{rest:List Oper}{a:Act}{w:World}(hw:Region.wanted o (yielded ops a.tmps)=false)(h:aG F P ops st S Q rest (a.put o.dst undef) w):aG F P ops st S Q (o::rest) a w:=by
 rw[bF,if_neg (by simp[hw])];exact h
theorem au{o:Oper}{rest:List Oper}{a:Act}{w:World}(hw:Region.wanted o (yielded ops a.tmps)=true)(hs:iJ o=true)
  (h:∀K:Act→Prop,(∀a',aG F P ops iJ S Q rest a' w→K a')→o.quiet P a S K):aG F P ops iJ S Q (o::rest) a w:=by
 rw[bF,if_pos hw,if_pos hs]
 obtain⟨v,hv,hh⟩:=h _ (fun _ x=>x)
 refine⟨v,fun w' hw'=>?_,hh⟩
 have:=hv w' hw'
 unfold Oper.quietAt at this
 rcases Jw (P:=P) hs a.eval w' with⟨u,w'',e⟩|⟨x,w'',e⟩
 ·rw[e]at this ⊢
  obtain⟨rfl,rfl⟩:=this
  rfl
 ·rw[e]at this
  exact this.elim
theorem aB{l:Nat}{o:Oper}{rest:List Oper}{a:Act}{w:World}(hw:Region.wanted o (yielded ops a.tmps)=true)(hs:iJ o=false)(hnd:AY o=false)
  (h:∀K:Act→World→Prop,(∀a' w',S w'→aG (Fence.wide.inRound l) P ops iJ S Q rest a' w'→K a' w')→o.wp P a w K never):aG (Fence.wide.inRound l) P ops iJ S Q (o::rest) a w:=by
 rw[bF,if_pos hw,if_neg (by simp[hs])]
 exact TQ (fun c hc=>by simp[AY,hc]at hnd) (h _ (fun _ _ x y=>⟨x,y⟩))
end
theorem Gl{P:Program}{id l:Nat}{Q':Exit→Act→World→Prop}{a:Act}{W w:World}{ops:List Oper}(S:Nat→Prop)(hW:But S W w)(hm:P.follows .mixedOrders=true)(hB:ny iJ ops.toArray=true)(hnd:Gj ops=true)
  (h:aG (Fence.wide.inRound l) P ops.toArray iJ (uU S W) (fun a' w'=>Q' .normal a' w') ops a w.drew):(Code.region id ops.toArray true).wpIn (Fence.wide.inRound l) 0 P Q' a w:=
 TP (fun _=>trivial) rfl (uU S W) iJ hm hB hnd ⟨⟨w.drew,hW.drew⟩,rfl⟩ h
end Go.WW.TI
