/- A part of the proof. -/
import Derived.Test.YtfieenjdcpjmgaaGreatDoorB13
import Derived.RangeFuncNested
import Derived.RangeFuncBound
import Derived.RangeFuncCalls
import Derived.RangeFuncLeaves
import Derived.Shelf.Abstract
import Derived.Shelf.RegionOpen
import Derived.OwnWalkIn
import Derived.TacticsInMore
import Derived.LoopNIn
import Derived.LoopIn
set_option maxRecDepth 100000
set_option maxHeartbeats 1000000
namespace Go.WW.TI
open Go.RowKit
section
variable {F:Fence} {P:Program} {ops:Array Oper} {S:World→Prop} {st:Oper→Bool} {Q:Act→World→Prop}
def aH(F:Fence)(P:Program)(ops:Array Oper)(st:Oper→Bool)(S:World→Prop)(Q:Act→World→Prop):List Oper→Act→World→Prop
 | [],a,w=>Q a w
 |o::rest,a,w=>
  if Region.wanted o (yielded ops a.tmps)then
   if st o then ∃v,(∀w',S w'→(execOp a.eval o).run P w'=.ok (.value v) w')∧aH F P ops st S Q rest (a.put o.dst v) w
   else o.wpIn F 0 P a w (fun a' w'=>S w'∧aH F P ops st S Q rest a' w') never
  else aH F P ops st S Q rest (a.put o.dst undef) w
def AO(o:Oper):Bool:=match o.op with | .defer _=>true|_=>false
def GI(l:List Oper):Bool:=l.all fun o=>!AO o
theorem ahH{l:List Oper}(h:GI l=true):∀(i:Nat) (o:Oper),l.toArray[i]?=some o→∀c,o.op≠.defer c:=by
 intro i o ho c hc
 have hm:o∈l:=List.mem_of_getElem? (by simpa using ho)
 have:=(List.all_eq_true.1 h) o hm
 simp[AO,hc]at this
theorem qL{o:Oper}{a:Act}{w:World}{K:Act→World→Prop}{Q':Exit→Act→World→Prop}(h:o.wpIn F 0 P a w K never):o.wpIn F 0 P a w K Q':=by
 unfold Oper.wpIn at *
 refine⟨h.1,?_⟩
 have h:=h.2
 generalize (o.semAt F.round a.eval).run P w=r at *
 cases r with
 |ok n w'=>
  cases n<;>simp only[Oper.uponIn]at h ⊢<;>
   first
    |exact h
    |exact⟨h.1,CallsIn.mono h.2 (fun e w'' he=>by cases e<;>first|exact he|exact he.elim|(obtain⟨_,_,he⟩:=he;exact he.elim))⟩
    |exact⟨h.1,RoundIn.mono h.2 (fun e w'' he=>by cases e<;>first|exact he|exact he.elim|(obtain⟨_,_,he⟩:=he;exact he.elim))⟩
 |halt x w'=>cases x<;>simp only[Oper.uponIn,never]at h ⊢
theorem sU{o:Oper}{a:Act}{w:World}{K:Act→World→Prop}(h:o.wpIn F 0 P a w K never) :
  o.wpIn F 0 P a w (fun a' w'=>(∃u ds,a'=({a with defers:=ds}:Act).put o.dst u)∧K a' w') never:=by
 unfold Oper.wpIn at *
 refine⟨h.1,?_⟩
 have h:=h.2
 generalize (o.semAt F.round a.eval).run P w=r at *
 cases r with
 |ok n w'=>
  cases n<;>simp only[Oper.uponIn]at h ⊢<;>
   first
    |exact⟨⟨_,a.defers,rfl⟩,h⟩
    |exact⟨⟨_,_,rfl⟩,h⟩
    |exact⟨h.1,CallsIn.mono h.2 (fun e w'' he=>by cases e<;>first|exact⟨⟨_,a.defers,rfl⟩,he⟩|exact he)⟩
    |exact⟨h.1,RoundIn.mono h.2 (fun e w'' he=>by cases e<;>first|exact⟨⟨_,a.defers,rfl⟩,he⟩|exact he)⟩
    |exact⟨h.1,RowsIn.mono h.2 (fun _ _ he=>⟨⟨_,a.defers,rfl⟩,he⟩)⟩
    |exact h
 |halt x w'=>cases x<;>simp only[Oper.uponIn,never]at h ⊢
theorem Fq(hd:F.depth=none){o:Oper}{a:Act}{w:World}{K:Act→World→Prop}(h:o.wpIn F 0 P a w K never):∃a' w',K a' w':=by
 have hroom:∀n,F.room n:=fun n d e=>by rw[hd]at e;cases e
 unfold Oper.wpIn at *
 have h:=h.2
 generalize (o.semAt F.round a.eval).run P w=r at *
 cases r with
 |ok n w'=>
  cases n<;>simp only[Oper.uponIn]at h<;>
   first
    |exact⟨_,_,h⟩
    |(obtain⟨e,w'',fr,hR,_⟩:=h.2.2 [] (hroom _)
      cases e with
      |returned v=>exact⟨_,_,hR⟩
      |panicked c=>exact hR.elim
      |outgrown=>obtain⟨_,_,hR⟩:=hR;exact hR.elim)
    |(obtain⟨e,w'',hR,_⟩:=h.2.2 default [] (hroom _)
      cases e with
      |returned v=>exact⟨_,_,hR⟩
      |panicked c=>exact hR.elim
      |outgrown=>obtain⟨_,_,hR⟩:=hR;exact hR.elim)
    |(obtain⟨v,w'',hR,_⟩:=h.2 default [] (hroom _);exact⟨_,_,hR⟩)
    |exact h.elim
 |halt x w'=>cases x<;>simp only[Oper.uponIn,never]at h
theorem nU(hF:∀f,F.fn f){o:Oper}{a:Act}{w:World}{K:Act→World→Prop}{dst:Option Tmp}{v:Value}(hnd:∀c,o.op≠.defer c)(hs:∀cs b,o.op≠.select cs b)
  (h1:∀d,dst=some d→d∉o.looksAt ops) (h2:∀d,dst=some d→o.dst≠some d) :
  o.wpIn F 0 P (a.put dst v) w K never↔o.wpIn F 0 P a w (fun a' w'=>K (a'.put dst v) w') never:=by
 unfold Oper.wpIn
 rw[Oper.semAt_eq _ _ _ hnd,Oper.semAt_eq _ _ _ hnd,execOp_put o hs a dst v h1]
 generalize (execOp a.eval o).run P w=r
 have hc:∀(b:Act) u,(b.put dst v).put o.dst u=(b.put o.dst u).put dst v:=fun b u=>Act.put_comm b v u h2
 have hd:∀d,({a.put dst v with defers:=d::(a.put dst v).defers}:Act)=({a with defers:=d::a.defers}:Act).put dst v:=fun d=>Act.put_defers a dst v d
 refine and_congr ⟨fun _ f _=>hF f,fun _ f _=>hF f⟩ ?_
 cases r with
 |ok n w'=>
  cases n<;>simp only[Oper.uponIn,hc,hd]
 |halt x w'=>cases x<;>simp only[Oper.uponIn]
theorem bJ(o:Oper)(rest:List Oper)(a:Act)(w:World):aH F P ops st S Q (o::rest) a w =
  (if Region.wanted o (yielded ops a.tmps)then
   if st o then ∃v,(∀w',S w'→(execOp a.eval o).run P w'=.ok (.value v) w')∧aH F P ops st S Q rest (a.put o.dst v) w
   else o.wpIn F 0 P a w (fun a' w'=>S w'∧aH F P ops st S Q rest a' w') never
  else aH F P ops st S Q rest (a.put o.dst undef) w):=rfl
theorem QF{l:List Oper}{Q':Act→World→Prop}(h:∀a w,Q a w→Q' a w):∀{a w},aH F P ops st S Q l a w→aH F P ops st S Q' l a w:=by
 induction l with
 |nil=>exact fun hh=>h _ _ hh
 |cons o l ih=>
  intro a w hh
  rw[bJ]at *
  split
  ·rename_i hw
   simp only[hw,if_true]at hh
   split
   ·rename_i hs
    simp only[hs,if_true]at hh
    obtain⟨v,h1,h2⟩:=hh
    exact⟨v,h1,ih h2⟩
   ·rename_i hs
    simp only[hs]at hh
    exact Oper.wpIn_mono (fun a' w' ⟨x,y⟩=>⟨x,ih y⟩) hh
  ·rename_i hw
   simp only[hw]at hh
   exact ih hh
theorem Aa{o:Oper}{M M':List Oper}{a:Act}{w:World}(hS:S w)(h:∀a' w',S w'→aH F P ops st S Q M a' w'→aH F P ops st S Q M' a' w')
  (hh:aH F P ops st S Q (o::M) a w):aH F P ops st S Q (o::M') a w:=by
 rw[bJ]at *
 split
 ·rename_i hw
  simp only[hw,if_true]at hh
  split
  ·rename_i hs
   simp only[hs,if_true]at hh
   obtain⟨v,h1,h2⟩:=hh
   exact⟨v,h1,h _ _ hS h2⟩
  ·rename_i hs
   simp only[hs]at hh
   exact Oper.wpIn_mono (fun a' w' ⟨x,y⟩=>⟨x,h _ _ x y⟩) hh
 ·rename_i hw
  simp only[hw]at hh
  exact h _ _ hS hh
theorem Ac(hF:∀f,F.fn f)(hdp:F.depth=none){x o:Oper}{L:List Oper}{a:Act}{w:World}(hxd:∀c,x.op≠.defer c)(hod:∀c,o.op≠.defer c)(hx:∀cs b,x.op≠.select cs b)(ho:∀cs b,o.op≠.select cs b)
  (hap:x.apart ops o=true) (hst:st x=true∨st o=true) (h:aH F P ops st S Q (x::o::L) a w):aH F P ops st S Q (o::x::L) a w:=by
 obtain⟨h1,h2,h3⟩:=Oper.apart_spec hap
 have h2':∀d,o.dst=some d→x.dst≠some d:=fun d hd hxd=>h2 d hxd hd
 have wo:∀(b:Act) v,Region.wanted o (yielded ops (b.put x.dst v).tmps)=Region.wanted o (yielded ops b.tmps):=fun b v=>wanted_put o b x.dst v h1
 have wx:∀(b:Act) v,Region.wanted x (yielded ops (b.put o.dst v).tmps)=Region.wanted x (yielded ops b.tmps):=fun b v=>wanted_put x b o.dst v h3
 have eo:∀(b:Act) v,execOp (b.put x.dst v).eval o=execOp b.eval o:=fun b v=>execOp_put o ho b x.dst v h1
 have ex:∀(b:Act) v,execOp (b.put o.dst v).eval x=execOp b.eval x:=fun b v=>execOp_put x hx b o.dst v h3
 have hc:∀(b:Act) v u,(b.put x.dst v).put o.dst u=(b.put o.dst u).put x.dst v:=fun b v u=>Act.put_comm b v u h2
 rw[bJ]at h ⊢
 by_cases hwx:Region.wanted x (yielded ops a.tmps)=true
 ·rw[if_pos hwx]at h
  by_cases hsx:st x=true
  ·rw[if_pos hsx]at h
   obtain⟨v,hv,h⟩:=h
   rw[bJ,wo,eo]at h
   by_cases hwo:Region.wanted o (yielded ops a.tmps)=true
   ·rw[if_pos hwo]at h ⊢
    by_cases hso:st o=true
    ·rw[if_pos hso]at h ⊢
     obtain⟨u,hu,h⟩:=h
     refine⟨u,hu,?_⟩
     rw[bJ,wx,if_pos hwx,if_pos hsx,ex]
     exact⟨v,hv,by rw[←hc];exact h⟩
    ·rw[if_neg hso]at h ⊢
     have h':=sU ((nU hF hod ho h1 h2).1 h)
     refine Oper.wpIn_mono ?_ h'
     rintro a' w' ⟨⟨u,ds,rfl⟩,hS',h⟩
     refine⟨hS',?_⟩
     rw[bJ,wx,show Region.wanted x (yielded ops ({a with defers:=ds}:Act).tmps)=true from hwx,if_pos rfl,if_pos hsx,ex]
     exact⟨v,hv,h⟩
   ·rw[if_neg hwo]at h ⊢
    rw[bJ,wx,if_pos hwx,if_pos hsx,ex]
    exact⟨v,hv,by rw[←hc];exact h⟩
  ·have hso:st o=true:=hst.resolve_left hsx
   rw[if_neg hsx]at h
   have h':=sU h
   by_cases hwo:Region.wanted o (yielded ops a.tmps)=true
   ·rw[if_pos hwo,if_pos hso]
    have key:∀a' w',((∃u ds,a'=({a with defers:=ds}:Act).put x.dst u)∧S w'∧aH F P ops st S Q (o::L) a' w')→
      ∃v,(∀w',S w'→(execOp a.eval o).run P w'=.ok (.value v) w')∧S w'∧aH F P ops st S Q L (a'.put o.dst v) w':=by
     rintro a' w' ⟨⟨u,ds,rfl⟩,hS',hh⟩
     rw[bJ,wo,show Region.wanted o (yielded ops ({a with defers:=ds}:Act).tmps)=true from hwo,if_pos rfl,if_pos hso,eo]at hh
     obtain⟨v,hv,hh⟩:=hh
     exact⟨v,hv,hS',hh⟩
    obtain⟨a1,w1,h1'⟩:=Fq hdp h'
    obtain⟨v,hv,_⟩:=key _ _ h1'
    refine⟨v,hv,?_⟩
    rw[bJ,wx,if_pos hwx,if_neg hsx,nU hF hxd hx h3 h2']
    refine Oper.wpIn_mono ?_ h'
    intro a' w' hh
    obtain⟨v',hv',hS',hh⟩:=key _ _ hh
    have e:v'=v:=by
     have:=(hv' _ hS').symm.trans (hv _ hS')
     simpa using this
    subst e
    exact⟨hS',hh⟩
   ·rw[if_neg hwo,bJ,wx,if_pos hwx,if_neg hsx,nU hF hxd hx h3 h2']
    refine Oper.wpIn_mono ?_ h'
    rintro a' w' ⟨⟨u,ds,rfl⟩,hS',hh⟩
    rw[bJ,wo,show Region.wanted o (yielded ops ({a with defers:=ds}:Act).tmps)=false from by simpa using hwo,if_neg (by simp)]at hh
    exact⟨hS',hh⟩
 ·rw[if_neg hwx]at h
  rw[bJ,wo,eo]at h
  by_cases hwo:Region.wanted o (yielded ops a.tmps)=true
  ·rw[if_pos hwo]at h ⊢
   by_cases hso:st o=true
   ·rw[if_pos hso]at h ⊢
    obtain⟨u,hu,h⟩:=h
    refine⟨u,hu,?_⟩
    rw[bJ,wx,if_neg hwx,←hc]
    exact h
   ·rw[if_neg hso]at h ⊢
    have h':=sU ((nU hF hod ho h1 h2).1 h)
    refine Oper.wpIn_mono ?_ h'
    rintro a' w' ⟨⟨u,ds,rfl⟩,hS',h⟩
    refine⟨hS',?_⟩
    rw[bJ,wx,show Region.wanted x (yielded ops ({a with defers:=ds}:Act).tmps)=false from by simpa using hwx,if_neg (by simp)]
    exact h
  ·rw[if_neg hwo]at h ⊢
   rw[bJ,wx,if_neg hwx,←hc]
   exact h
theorem lV(hF:∀f,F.fn f)(hdp:F.depth=none){o:Oper}{L2:List Oper}(hod:∀c,o.op≠.defer c)(ho:∀cs b,o.op≠.select cs b):∀(L1:List Oper),(∀x∈L1,((∀c,x.op≠.defer c)∧∀cs b,x.op≠.select cs b)∧x.apart ops o=true∧(st x=true∨st o=true))→
  ∀(a:Act) (w:World),S w→aH F P ops st S Q (L1++o::L2) a w→aH F P ops st S Q (o::(L1++L2)) a w
 | [],_,_,_,_,h=>h
 |x::L1,hall,a,w,hS,h=>by
  have hx:=hall x (by simp)
  refine Ac hF hdp hx.1.1 hod hx.1.2 ho hx.2.1 hx.2.2 ?_
  exact Aa hS (fun a' w' hS' hh=>lV hF hdp hod ho L1 (fun y hy=>hall y (by simp[hy])) a' w' hS' hh) h
theorem yf(hF:∀f,F.fn f)(hdp:F.depth=none)(hnd:∀(i:Nat) (o:Oper),ops[i]?=some o→∀c,o.op≠.defer c){m:Array (List Nat)}(hok:qM st ops m){Q':Exit→Act→World→Prop}(hQ:∀a w,Q a w→Q' .normal a w) :
  ∀(n:Nat) (L:List Nat) (listed:Array Bool) (a:Act) (w:World),L.length=n→L.Pairwise (· < ·)→listed.size=ops.size→(∀j,j∈L↔j<ops.size∧listed.getD j true=false)→
   (∀k o,ops[k]?=some o→listed.getD k false=true→∀e∈o.after,Region.binds .any e=true→listed.getD e.on false=true)→
   S w→aH F P ops st S Q (L.filterMap (ops[·]?)) a w→wpAnyIn F 0 P .any ops Q' n listed a w:=by
 intro n
 induction n with
 |zero=>
  intro L listed a w hn _ hsz hL _ _ h
  have:L=[]:=List.eq_nil_of_length_eq_zero hn
  subst this
  refine⟨?_,hQ _ _ h⟩
  cases hr:Region.ready .any ops listed with
  |nil=>rfl
  |cons i r=>
   have hi:i∈Region.ready .any ops listed:=by rw[hr];simp
   obtain⟨h0,o,ho,_⟩:=mem_ready.1 hi
   have:=(hL i).2 ⟨(Array.getElem?_eq_some_iff.1 ho).1,h0⟩
   cases this
 |succ n ih=>
  intro L listed a w hn hsort hsz hL hdown hS h
  refine⟨fun hr=>?_,fun i hi=>?_⟩
  ·exfalso
   cases L with
   |nil=>simp at hn
   |cons j L=>
    obtain⟨hj,hjl⟩:=(hL j).1 (by simp)
    have hoj:ops[j]?=some ops[j]:=by simp[hj]
    have:j∈Region.ready .any ops listed:=by
     refine mem_ready.2 ⟨hjl,_,hoj,fun e he hb=>?_⟩
     have hlt:=hok.back j _ hoj e he hb
     have hnot:e.on∉j::L:=by
      intro hmem
      rcases List.mem_cons.1 hmem with h1|h1
      ·omega
      ·have:=(List.pairwise_cons.1 hsort).1 _ h1;omega
     have h2:listed.getD e.on true≠false:=fun hf=>hnot ((hL e.on).2 ⟨by omega,hf⟩)
     have hes:e.on<listed.size:=by omega
     simp[hes]at h2 ⊢;exact h2
    rw[hr]at this;cases this
  ·obtain⟨h0,o,ho,hall⟩:=mem_ready.1 hi
   have his:i<ops.size:=(Array.getElem?_eq_some_iff.1 ho).1
   have hiL:i∈L:=(hL i).2 ⟨his,h0⟩
   obtain⟨L1,L2,rfl⟩:=List.append_of_mem hiL
   have dN:=List.pairwise_append.1 hsort
   have hlt1:∀x∈L1,x<i:=fun x hx=>dN.2.2 x hx i (by simp)
   have hgt2:∀x∈L2,i<x:=fun x hx=>(List.pairwise_cons.1 dN.2.1).1 x hx
   rw[List.filterMap_append,List.filterMap_cons_some ho]at h
   have bY:=lV hF hdp (P:=P) (ops:=ops) (S:=S) (st:=st) (Q:=Q) (hnd i o ho) (Region.noSelect_spec hok.jl i o · · ho) (L1.filterMap (ops[·]?)) (fun x hx=>by
    obtain⟨k,hk,hox⟩:=List.mem_filterMap.1 hx
    have hkl:=((hL k).1 (by simp[hk])).2
    have hnl:¬listed.getD k false=true:=fun hf=>by rw[sV hf]at hkl;cases hkl
    refine⟨⟨hnd k x hox,(Region.noSelect_spec hok.jl k x · · hox)⟩,?_⟩
    rcases hok.pair i o ho k (hlt1 k hk) x hox with⟨e,he,hb,rfl⟩|⟨hap,hor⟩
    ·exact absurd (hall e he hb) hnl
    ·refine⟨hap,?_⟩
     rcases hor with h1|h1|h1
     ·exact .inl h1
     ·exact .inr h1
     ·exact absurd (Ad hok hdown i o ho hall k h1) hnl) a w hS h
   have hrest:∀a' w',S w'→aH F P ops st S Q (L1.filterMap (ops[·]?)++L2.filterMap (ops[·]?)) a' w'→wpAnyIn F 0 P .any ops Q' n (listed.setIfInBounds i true) a' w':=by
    intro a' w' hS' hh
    rw[←List.filterMap_append]at hh
    refine ih (L1++L2) (listed.setIfInBounds i true) a' w' ?_ ?_ (by simpa using hsz) ?_ ?_ hS' hh
    ·simp at hn ⊢;omega
    ·exact List.pairwise_append.2 ⟨dN.1,(List.pairwise_cons.1 dN.2.1).2,fun x hx y hy=>dN.2.2 x hx y (by simp[hy])⟩
    ·intro j
     by_cases hji:j=i
     ·subst hji
      constructor
      ·intro hm
       exfalso
       rcases List.mem_append.1 hm with h1|h1
       ·have:=hlt1 _ h1;omega
       ·have:=hgt2 _ h1;omega
      ·rintro⟨_,hf⟩
       have:j<listed.size:=by omega
       simp[this]at hf
     ·rw[getD_set_ne true (Ne.symm hji),←hL j]
      simp[hji]
    ·intro k ok hk hkl e he hb
     by_cases hki:k=i
     ·subst hki
      rw[ho]at hk;cases hk
      exact getD_set_true (hall e he hb)
     ·rw[getD_set_ne false (Ne.symm hki)]at hkl
      exact getD_set_true (hdown k ok hk hkl e he hb)
   unfold wpOpIn
   simp only[ho]
   rw[bJ]at bY
   split
   ·rename_i hw
    rw[if_pos hw]at bY
    by_cases hs:st o=true
    ·rw[if_pos hs]at bY
     obtain⟨v,hv,hh⟩:=bY
     unfold Oper.wpIn
     refine⟨fun f _=>hF f,?_⟩
     rw[Oper.semAt_eq _ _ _ (hnd i o ho),hv w hS]
     exact hrest _ _ hS hh
    ·rw[if_neg hs]at bY
     exact qL (Oper.wpIn_mono (fun a' w' hh=>hrest a' w' hh.1 hh.2) bY)
   ·rename_i hw
    rw[if_neg hw]at bY
    exact⟨fun f _=>hF f,hrest _ _ hS bY⟩
theorem UU(hF:∀f,F.fn f)(hdp:F.depth=none){id:Nat}{Q':Exit→Act→World→Prop}{a:Act}{w:World}{l:List Oper}(S:World→Prop)(st:Oper→Bool)(hm:P.follows .mixedOrders=true)(hB:lW st l.toArray=true)(hnd:GI l=true)
  (hS:S w.drew) (h:aH F P l.toArray st S (fun a' w'=>Q' .normal a' w') l a w.drew):(Code.region id l.toArray true).wpIn F 0 P Q' a w:=by
 refine wpIn_region_any hm ?_
 have hfm:(List.range l.toArray.size).filterMap (l.toArray[·]?)=l:=by
  apply List.ext_getElem?
  intro i
  have:∀n,(List.range n).filterMap (fun i=>l.toArray[i]?)=l.take n:=by
   intro n
   induction n with
   |zero=>simp
   |succ n ih=>
    rw[List.range_succ,List.filterMap_append,ih]
    by_cases hn:n<l.length
    ·rw[List.take_succ_eq_append_getElem hn];simp[hn]
    ·simp[hn,List.take_of_length_le (show l.length≤n by omega),List.take_of_length_le (show l.length≤n+1 by omega)]
  rw[this];simp
 have:=yf hF hdp (ahH hnd) (P:=P) (S:=S) (Q:=fun a' w'=>Q' .normal a' w') (yc hB) (Q':=Q') (fun _ _ h=>h) l.toArray.size (List.range l.toArray.size) (Array.replicate l.toArray.size false) a w.drew
  (by simp) List.pairwise_lt_range (by simp) (by intro j;simp;intro h;simp[h]) (by intro k o hk hkl;exfalso;rw[Array.getD_eq_getD_getElem?,Array.getElem?_replicate]at hkl;split at hkl<;>simp at hkl) hS (by rw[hfm];exact h)
 exact this
theorem UW{l:Nat}{o:Oper}{a:Act}{w:World}{K:Act→World→Prop}(hnd:∀c,o.op≠.defer c)(h:o.wp P a w K never):o.wpIn (Fence.wide.inRound l) 0 P a w K never:=by
 unfold Oper.wpIn
 refine⟨fun f _=>trivial,?_⟩
 rw[Oper.semAt_eq _ _ _ hnd]
 unfold Oper.wp at h
 generalize (execOp a.eval o).run P w=r at *
 cases r with
 |ok n w'=>
  cases n<;>simp only[Oper.upon,Oper.uponIn]at h ⊢<;>
   first
    |exact h
    |exact⟨fun e=>(by cases e),(callsIn_wide (n:=0)).2 h⟩
    |exact⟨fun e=>(by cases e),fun c cs _=>let⟨v,w'',hR,hs⟩:=h c cs;⟨v,w'',hR,stepsIn_wide.2 hs⟩⟩
    |exact h.elim
 |halt x w'=>cases x<;>simp only[Oper.upon,never]at h ⊢
theorem bV{a:Act}{w:World}(h:Q a w):aH F P ops st S Q [] a w:=h
theorem ax{o:Oper}{rest:List Oper}{a:Act}{w:World}(hw:Region.wanted o (yielded ops a.tmps)=false)(h:aH F P ops st S Q rest (a.put o.dst undef) w):aH F P ops st S Q (o::rest) a w:=by
 rw[bJ,if_neg (by simp[hw])];exact h
theorem aI{o:Oper}{rest:List Oper}{a:Act}{w:World}(hw:Region.wanted o (yielded ops a.tmps)=true)(hs:fQ o=true)
  (h:∀K:Act→Prop,(∀a',aH F P ops fQ S Q rest a' w→K a')→o.quiet P a S K):aH F P ops fQ S Q (o::rest) a w:=by
 rw[bJ,if_pos hw,if_pos hs]
 obtain⟨v,hv,hh⟩:=h _ (fun _ x=>x)
 refine⟨v,fun w' hw'=>?_,hh⟩
 have:=hv w' hw'
 unfold Oper.quietAt at this
 rcases KE (P:=P) hs a.eval w' with⟨u,w'',e⟩|⟨x,w'',e⟩
 ·rw[e]at this ⊢
  obtain⟨rfl,rfl⟩:=this
  rfl
 ·rw[e]at this
  exact this.elim
theorem aK{l:Nat}{o:Oper}{rest:List Oper}{a:Act}{w:World}(hw:Region.wanted o (yielded ops a.tmps)=true)(hs:fQ o=false)(hnd:AO o=false)
  (h:∀K:Act→World→Prop,(∀a' w',S w'→aH (Fence.wide.inRound l) P ops fQ S Q rest a' w'→K a' w')→o.wp P a w K never):aH (Fence.wide.inRound l) P ops fQ S Q (o::rest) a w:=by
 rw[bJ,if_pos hw,if_neg (by simp[hs])]
 exact UW (fun c hc=>by simp[AO,hc]at hnd) (h _ (fun _ _ x y=>⟨x,y⟩))
end
theorem GK{P:Program}{id l:Nat}{Q':Exit→Act→World→Prop}{a:Act}{W w:World}{ops:List Oper}(S:Nat→Prop)(hW:But S W w)(hm:P.follows .mixedOrders=true)(hB:lW fQ ops.toArray=true)(hnd:GI ops=true)
  (h:aH (Fence.wide.inRound l) P ops.toArray fQ (nK S W) (fun a' w'=>Q' .normal a' w') ops a w.drew):(Code.region id ops.toArray true).wpIn (Fence.wide.inRound l) 0 P Q' a w:=
 UU (fun _=>trivial) rfl (nK S W) fQ hm hB hnd ⟨⟨w.drew,hW.drew⟩,rfl⟩ h
end Go.WW.TI
namespace Go.WW
open Go.RowKit
def span(m c:Nat):Nat→Prop:=fun b=>m≤b∧b<c
def Ll{α:Type}(P:Program)(g:Nat)(lb:Array Value)(S:Nat→Prop)(xs:List α)(V:Nat→α→Array Value→World→World→Prop)(w:World):Prop:=
 ∀(l:Nat) (J Jx:Nat→Nat→World→Prop) (W:World),Below w.heap.size w W→w.heap.size≤l→l<W.heap.size→
  (∀c1 W1,W.heap.size≤c1→c1≤W1.heap.size→Below W.heap.size W W1→J c1 0 W1)→
  (∀c1 k W1 W2,J c1 k W1→But (span W.heap.size c1) W1 W2→J c1 k W2)→
  (∀c1 k W1 W2,Jx c1 k W1→But (span W.heap.size c1) W1 W2→Jx c1 k W2)→
  (∀c1 k x v W0 W1,xs[k]?=some x→J c1 k W0→But (span W.heap.size c1) W0 W1→V c1 x v W0 W1→W.heap.size≤c1→c1≤W0.heap.size→YieldAt Fence.wide 0 P l v W1 fun e W'=>
   But (fun b=>(S b∨b=l)∨c1≤b) W1 W'∧((e=.returned (.bool true)∧J c1 (k+1) W')∨(e=.returned (.bool false)∧Jx c1 (k+1) W')))→
  Calls P g (#[.func (.yield l) #[] #[]]++lb) W fun e W'=>(∃v,e=.returned v)∧((∃c1,J c1 xs.length W')∨(∃c1 k,Jx c1 k W'))
def ahI(S:Nat→Prop)(I:Nat→Nat→World→Prop)(Ix:Code→Nat→Nat→World→Prop)(c1 k:Nat)(U:World):Exit→Act→World→Prop
 | .normal,_,X=>But (fun b=>S b∨c1≤b) U X∧I c1 k X
 | .ret,_,X=>But (fun b=>S b∨c1≤b) U X∧Ix .ret c1 k X
 | .exit id,_,X=>But (fun b=>S b∨c1≤b) U X∧Ix (.exit id) c1 k X
 | .goto t,_,X=>But (fun b=>S b∨c1≤b) U X∧Ix (.goto t) c1 k X
 |_,_,_=>False
theorem But.putObj{w:World}{l:Nat}(o:Obj):But (one l) w (w.putObj l o):=CY o
theorem GL{α:Type}{P:Program}{g:Operand}{ps:Array Tmp}{assign body:Code}{Q:Exit→Act→World→Prop}{a:Act}{w:World}
  {gf:Nat} {lb:Array Value} (hg:a.eval g=.func (.func gf) #[] lb) (eg:∀args w,(callFunc gf args).run P w=.ok (.enter gf args) w)
  {S:Nat→Prop} (hS:∀b,S b→b<w.heap.size) {xs:List α} {V:Nat→α→Array Value→World→World→Prop} (hps:∀c1 x v W0 W,V c1 x v W0 W→v.size=ps.size)
  (hseq:Ll P gf lb S xs V w) (I:Nat→Nat→World→Prop) (Ix:Code→Nat→Nat→World→Prop)
  (hI0:∀c1 W,w.heap.size<c1→c1≤W.heap.size→Below w.heap.size w W→I c1 0 W)
  (hIs:∀c1 k W W',I c1 k W→But (span w.heap.size c1) W W'→I c1 k W')
  (Dv:∀c c1 k W W',Ix c c1 k W→But (span w.heap.size c1) W W'→Ix c c1 k W')
  (ahJ:∀c1 k x v W0 W,xs[k]?=some x→V c1 x v W0 W→I c1 k W0→But (span w.heap.size c1) W0 W→w.heap.size+1<c1→c1≤W0.heap.size→
   assign.wpIn (Fence.wide.inRound (w.heap.size+1)) 0 P (Exit.then (fun a' W'=>Below W.heap.size W W'∧∀U,But (one (w.heap.size+1)) W' U→body.wpIn (Fence.wide.inRound (w.heap.size+1)) 0 P (ahI S I Ix c1 (k+1) U) a' U) (fun _ _ _=>False))
    {tmps:=(ps.zip v).foldl (fun t (p,v)=>t.setIfInBounds p v) a.tmps,defers:=[]} W)
  (hdone:∀c1 W,I c1 xs.length W→W.heap[w.heap.size]?=some (.deferred (some []))→Q .normal {a with defers:={target:=.collected w.heap.size,args:=#[]}::a.defers} W)
  (hstop:∀c c1 k W,Ix c c1 k W→W.heap[w.heap.size]?=some (.deferred (some []))→c.wp P Q {a with defers:={target:=.collected w.heap.size,args:=#[]}::a.defers} W) :
  (Code.rangeFunc g ps assign body).wp P Q a w:=by
 refine(wpIn_wide (n:=0)).1 (wpIn_rangeFunc ?_)
 intro fn hfn
 show ∃l mark w₁ d w₁' f args w₂,_
 obtain⟨lp,hlp⟩:∃lp:LoopState→Option Code→Loop,lp=fun st pe=>{state:=st,pending:=pe,fn,tmps:=a.tmps,params:=ps,assign,body,defers:=w.heap.size}:=⟨_,rfl⟩
 obtain⟨A,hA⟩:∃A,(w.alloc (.deferred (some []))).alloc (.loop (lp .ready none))=A:=⟨_,rfl⟩
 have hL:A.heap[w.heap.size+1]?=some (.loop (lp .ready none)):=by
  have:=World.alloc_heap_new (w.alloc (.deferred (some []))) (.loop (lp .ready none))
  rw[World.size_alloc,hA]at this;exact this
 have hD:A.heap[w.heap.size]?=some (.deferred (some [])):=by
  rw[←hA];exact(Below.heap_alloc _ _ _ (by simp)).trans (World.alloc_heap_new w _)
 have hB:Below w.heap.size w A:=by
  rw[←hA];exact((Below.refl _ w).alloc (Nat.le_refl _) _).alloc (by simp) _
 have hsz:A.heap.size=w.heap.size+1+1:=by rw[←hA];simp
 refine⟨w.heap.size+1,[{target:=.collected w.heap.size,args:=#[]}],A,{target:=.fn (.func gf) lb,args:=#[.func (.yield (w.heap.size+1)) #[] #[]]},A,gf,
  #[.func (.yield (w.heap.size+1)) #[] #[]]++lb,A,?_,?_,?_,?_,fun e=>(by cases e),?_⟩
 ·rw[←hA,hlp];exact run_enterLoop_outer _ _ _ _ _
 ·simp only[resolve,hg];simp[go_sem]
 ·intro f' hf';trivial
 ·simp[invoke,go_sem,eg]
 ·have wide:∀{c1 b:Nat},span A.heap.size c1 b→span w.heap.size c1 b:=fun h=>⟨by have:=h.1;omega,h.2⟩
  have keep:∀{c1 b:Nat} {X Y:World},But (span A.heap.size c1) X Y→b<A.heap.size→b<X.heap.size→Y.heap[b]?=X.heap[b]?:=fun h hb hx=>h.block _ hx (fun e=>by have:=e.1;omega)
  refine(callsIn_wide (n:=0)).2 (Calls.mono (hseq (w.heap.size+1)
   (fun c1 k W=>w.heap.size+1<c1∧I c1 k W∧W.heap[w.heap.size+1]?=some (.loop (lp .ready none))∧W.heap[w.heap.size]?=some (.deferred (some [])))
   (fun c1 k W=>w.heap.size+1<c1∧∃c,Ix c c1 k W∧W.heap[w.heap.size+1]?=some (.loop (lp .done (some c)))∧W.heap[w.heap.size]?=some (.deferred (some [])))
   A hB (by omega) (by omega) ?_ ?_ ?_ ?_) ?_)
  ·intro c1 W1 h1 h2 hb
   exact⟨by omega,hI0 c1 W1 (by omega) h2 (hB.trans (hb.mono hB.size)),(hb.block _ (by omega)).trans hL,(hb.block _ (by omega)).trans hD⟩
  ·rintro c1 k W1 W2 ⟨hc,hi,hl,hk⟩ hb
   exact⟨hc,hIs _ _ _ _ hi (hb.mono fun _=>wide),(keep hb (by omega) (Array.getElem?_eq_some_iff.1 hl).1).trans hl,(keep hb (by omega) (Array.getElem?_eq_some_iff.1 hk).1).trans hk⟩
  ·rintro c1 k W1 W2 ⟨hc,c,hi,hl,hk⟩ hb
   exact⟨hc,c,Dv _ _ _ _ _ hi (hb.mono fun _=>wide),(keep hb (by omega) (Array.getElem?_eq_some_iff.1 hl).1).trans hl,(keep hb (by omega) (Array.getElem?_eq_some_iff.1 hk).1).trans hk⟩
  ·rintro c1 k x v W0 W hx ⟨_,hi,hl0,hk0⟩ hbs hv hc0 hc1
   have hl:=(keep hbs (by omega) (Array.getElem?_eq_some_iff.1 hl0).1).trans hl0
   have hk:=(keep hbs (by omega) (Array.getElem?_eq_some_iff.1 hk0).1).trans hk0
   have hlt:w.heap.size+1<W.heap.size:=(Array.getElem?_eq_some_iff.1 hl).1
   have hy:=run_yield (P:=P) (args:=v) hl (by rw[hlp];exact hps _ _ _ _ _ hv)
   rw[hlp]at hy
   refine⟨fn,_,assign,body,hy,roundIn_of_wpIn hfn (wpIn_mono (ahJ c1 k x v W0 W hx hv hi (hbs.mono fun _=>wide) (by omega) hc1) ?_)⟩
   rintro e a' W' he
   cases e with
   |normal=>
    obtain⟨hbW,hbody⟩:=he
    have hl1:=(hbW.block _ hlt).trans hl
    have hk1:=(hbW.block _ (by omega)).trans hk
    refine⟨_,run_beginRound hl1 (by rw[hlp]),?_⟩
    obtain⟨U,hU⟩:∃U,W'.putObj (w.heap.size+1) (.loop {lp .ready none with state:=.busy})=U:=⟨_,rfl⟩
    have eH:But (one (w.heap.size+1)) W' U:=by rw[←hU];exact But.putObj _
    have UX:U.heap[w.heap.size+1]?=some (.loop {lp .ready none with state:=.busy}):=by rw[←hU];exact World.putObj_heap_same (Array.getElem?_eq_some_iff.1 hl1).1
    have UY:U.heap[w.heap.size]?=some (.deferred (some [])):=(eH.block _ (Array.getElem?_eq_some_iff.1 hk1).1 (bu (by omega))).trans hk1
    rw[hU]
    refine wpIn_mono (hbody U eH) ?_
    have ahK:But (fun b=>(S b∨b=w.heap.size+1)∨c1≤b) W U:=(But.of_below hbW).trans (eH.mono fun _ e=>.inl (.inr e))
    have over:∀(jump:Option Code) (X:World),But (fun b=>S b∨c1≤b) U X→
      (Instr.endRound (w.heap.size+1) jump).run P X=.ok (.bool jump.isNone) (X.putObj (w.heap.size+1) (.loop (lp (if jump.isNone then .ready else .done) jump)))∧
      (X.putObj (w.heap.size+1) (.loop (lp (if jump.isNone then .ready else .done) jump))).heap[w.heap.size+1]?=some (.loop (lp (if jump.isNone then .ready else .done) jump))∧
      (X.putObj (w.heap.size+1) (.loop (lp (if jump.isNone then .ready else .done) jump))).heap[w.heap.size]?=some (.deferred (some []))∧
      But (fun b=>(S b∨b=w.heap.size+1)∨c1≤b) W (X.putObj (w.heap.size+1) (.loop (lp (if jump.isNone then .ready else .done) jump)))∧
      But (span w.heap.size c1) X (X.putObj (w.heap.size+1) (.loop (lp (if jump.isNone then .ready else .done) jump))):=fun jump X hX=>by
     have hl3:=(hX.block _ (Array.getElem?_eq_some_iff.1 UX).1 (fun e=>e.elim (fun e=>by have:=hS _ e;omega) (fun e=>by omega))).trans UX
     have hk3:=(hX.block _ (Array.getElem?_eq_some_iff.1 UY).1 (fun e=>e.elim (fun e=>by have:=hS _ e;omega) (fun e=>by omega))).trans UY
     have hr:=run_endRound (P:=P) jump hl3
     have hp:But (one (w.heap.size+1)) X (X.putObj (w.heap.size+1) (.loop (lp (if jump.isNone then .ready else .done) jump))):=But.putObj _
     refine⟨?_,World.putObj_heap_same (Array.getElem?_eq_some_iff.1 hl3).1,(hp.block _ (Array.getElem?_eq_some_iff.1 hk3).1 (bu (by omega))).trans hk3,(ahK.trans (hX.mono fun _ e=>e.imp .inl id)).trans (hp.mono fun _ e=>.inl (.inr e)),hp.mono fun b e=>?_⟩
     ·rw[hlp]at hr ⊢;exact hr
     ·obtain rfl:b=w.heap.size+1:=e
      exact⟨by omega,by omega⟩
    rintro e a3 X hp
    cases e with
    |normal=>
     obtain⟨hX,qO⟩:=hp
     obtain⟨hr,hl4,hk4,hbX,yF⟩:=over none X hX
     exact⟨_,_,hr,hbX,.inl ⟨rfl,by omega,hIs _ _ _ _ qO yF,hl4,hk4⟩⟩
    |ret=>
     obtain⟨hX,qO⟩:=hp
     obtain⟨hr,hl4,hk4,hbX,yF⟩:=over (some .ret) X hX
     exact⟨_,_,hr,hbX,.inr ⟨rfl,by omega,.ret,Dv _ _ _ _ _ qO yF,hl4,hk4⟩⟩
    |exit id=>
     obtain⟨hX,qO⟩:=hp
     obtain⟨hr,hl4,hk4,hbX,yF⟩:=over (some (.exit id)) X hX
     exact⟨_,_,hr,hbX,.inr ⟨rfl,by omega,.exit id,Dv _ _ _ _ _ qO yF,hl4,hk4⟩⟩
    |goto t=>
     obtain⟨hX,qO⟩:=hp
     obtain⟨hr,hl4,hk4,hbX,yF⟩:=over (some (.goto t)) X hX
     exact⟨_,_,hr,hbX,.inr ⟨rfl,by omega,.goto t,Dv _ _ _ _ _ qO yF,hl4,hk4⟩⟩
    |panic ch=>exact hp.elim
    |outgrown=>exact hp.elim
   |ret=>exact he.elim
   |exit id=>exact he.elim
   |goto t=>exact he.elim
   |panic ch=>exact he.elim
   |outgrown=>exact he.elim
  ·have fin:∀{c1:Nat} {X:World} (o:Obj),w.heap.size+1<c1→But (span w.heap.size c1) X (X.putObj (w.heap.size+1) o):=fun o h=>(But.putObj o).mono fun b e=>by
    obtain rfl:b=w.heap.size+1:=e
    exact⟨by omega,h⟩
   rintro e X ⟨⟨v,rfl⟩,(⟨c1,hc,hi,hl,hk⟩|⟨c1,k,hc,c,hi,hl,hk⟩)⟩
   ·refine⟨none,_,by have:=run_endLoop (P:=P) hl (by rw[hlp];simp);rw[hlp]at this;exact this,hdone c1 _ (hIs _ _ _ _ hi (fin _ hc)) ((World.putObj_heap_other (by omega)).trans hk)⟩
   ·refine⟨some c,_,by have:=run_endLoop (P:=P) hl (by rw[hlp];simp);rw[hlp]at this;exact this,(wpIn_wide (n:=0)).2 (hstop c c1 k _ (Dv _ _ _ _ _ hi (fin _ hc)) ((World.putObj_heap_other (by omega)).trans hk))⟩
abbrev PP:=Sl×az
def yG(x:PP):Array Value:=ah x.1 x.2
structure tX(w:World)(a:Option Addr)(X:List PP):Prop where
 len:X.length≤lim+1
 rows:∀i (hi:i<X.length),∃b o,a=some ⟨b,o,none⟩∧row? w b (o+i*2) 2=some (yG X[i])
 each:∀x∈X,bn w x.1 x.2
abbrev Off(S:Nat→Prop)(w:World):Nat→Prop:=fun k=>S k∨w.heap.size≤k
def UZ(S:Nat→Prop)(w:World)(_:Nat)(x:PP)(v:Array Value)(_ _:World):Prop:=v=#[.agg (yG x)]∧∀y,But (Off S w) w y→bn y x.1 x.2
end Go.WW
namespace Go.Proofs.YtfieenjdcpjmgaaGreatDoor
open Go.RowKit Go.WW
attribute [local go_sem] Oper.semAt_some
theorem ahL(a:Option Addr)(n cap:Nat)(w:World):Calls Tryz.prog 127 #[.slice a n cap] w fun e w'=>e=.returned (.func (.func 205) #[] #[.pointer (some ⟨w.heap.size,0,none⟩)])∧w'=w.alloc (.cells #[.slice a n cap] 41):=by
 go_enter Tryz.func127,Tryz.ntmps127
 go_wp2
 go_ret
 exact⟨rfl,rfl⟩
theorem ahM(b cap:Nat)(a:Option Addr)(X:List PP)(S:Nat→Prop)(w:World)(hc:w.cell? ⟨b,0,none⟩=some (.slice a X.length cap))(hL:∀y,But (Off S w) w y→tX y a X) :
  Ll Tryz.prog 205 #[.pointer (some ⟨b,0,none⟩)] S X (UZ S w) w:=by
 intro l J Jx W hW hl1 hl2 h0 hJ hJx hY
 have hn:X.length≤4294967001:=(hL w (But.refl _ _)).len
 have hcW:W.cell? ⟨b,0,none⟩=some (.slice a X.length cap):=(hW.cell (World.block_lt_of_cell? w _ hc)).trans hc
 have hWB:But (Off S w) w W:=But.of_below hW
 have HJ:=Lib.hid hJ
 have Lm:=Lib.hid hJx
 have HY:=Lib.hid hY
 have HL:=Lib.hid hL
 have H0:=Lib.hid (h0 W.heap.size W (Nat.le_refl _) (Nat.le_refl _) (Below.refl _ _))
 clear hJ hJx hY hL h0
 refine(callsIn_wide (n:=0)).1 ?_
 refine callsIn_of_wp Tryz.func205 rfl trivial ?_ rfl
 simp only[Tryz.ntmps205,List.size_toArray,List.length_cons,List.length_nil,Nat.reduceAdd,Nat.reduceSub,Array.replicate_succ,Array.replicate_zero,List.push_toArray,List.append_toArray,List.nil_append,List.cons_append]
 rcases Nat.eq_zero_or_pos X.length with hX|hX
 ·obtain rfl:X=[]:=List.eq_nil_of_length_eq_zero hX
  gi_wp2
  refine wpIn_loop_rounds 1 ?_
  rw[roundsIn_succ]
  gi_wp2
  go_end0
  exact⟨⟨_,rfl⟩,.inl ⟨_,H0.out⟩⟩
 obtain⟨B,o,rfl,-⟩:=(HL.out w (But.refl _ _)).rows 0 hX
 gi_wp2
 gi_loopw [7] (fun iv wr=>∃i:Nat,i≤X.length∧iv=.int .i64 i∧Hid (J W.heap.size i wr)∧Hid (But (Off S w) w wr)∧W.heap.size≤wr.heap.size) (fun iv _=>X.length-(intOf iv).toNat)
 case atStart=>exact⟨0,Nat.zero_le _,rfl,H0,hWB,Nat.le_refl _⟩
 case round=>
  obtain⟨i,hi,rfl,hj,hbu,hsz⟩:=hrel
  by_cases hlt:i<X.length
  ·have hki:(i:Int)<(X.length:Int):=by omega
   obtain⟨B',o',e,hr⟩:=(HL.out wr hbu.out).rows i hlt
   cases e
   have HP:=Lib.hid (fun y hy=>(HL.out y hy).each _ (List.getElem_mem hlt))
   have hx:X[i]?=some X[i]:=by simp[hlt]
   generalize X[i]=x at *
   obtain⟨s,p⟩:=x
   have hr':row? wr B (o+i*2) 2=some (ah s p):=hr
   clear hr
   have hal:But (Off S w) w (wr.alloc (.cells (ah s p) 40)):=hbu.out.trans (But.of_below ((Below.refl _ wr).alloc (Nat.le_refl _) _))
   obtain⟨fn,tmps,assign,body,hy,hR⟩:=HY.out W.heap.size i (s,p) #[.agg (ah s p)] wr (wr.alloc (.cells (ah s p) 40)) hx hj.out (But.of_below ((Below.refl _ wr).alloc (Nat.le_refl _) _)) ⟨rfl,HP.out⟩ (Nat.le_refl _) hsz
   gi_wp2
   refine⟨rfl,hR.mono ?_⟩
   rintro e W3 ⟨hb3,h3⟩
   have HB3:=Lib.hid (show But (Off S w) w W3 from hal.trans (hb3.mono fun k hk=>by
    rcases hk with(hk|rfl)|hk
    ·exact .inl hk
    ·exact .inr hl1
    ·exact .inr (Nat.le_trans hW.size hk)))
   have Du:W.heap.size≤W3.heap.size:=by have:=hb3.size;simp at this;omega
   clear hal hy hR hb3
   rcases h3 with⟨rfl,hj3⟩|⟨rfl,hx3⟩
   ·have Lp:=Lib.hid hj3
    clear hj3
    gi_wp2
    go_roundw
    case rel=>exact⟨i+1,by omega,by go_num,Lp.out,HB3.out,Du⟩
    case measure=>simp[intOf];omega
   ·have Lp:=Lib.hid hx3
    clear hx3
    gi_wp2
    refine bodyPost_ret (results_none rfl _ _ _) rfl ?_
    exact⟨⟨_,rfl⟩,.inr ⟨_,_,Lp.out⟩⟩
  ·obtain rfl:i=X.length:=by omega
   gi_wp2
   go_end0
   exact⟨⟨_,rfl⟩,.inl ⟨_,hj.out⟩⟩
end Go.Proofs.YtfieenjdcpjmgaaGreatDoor
