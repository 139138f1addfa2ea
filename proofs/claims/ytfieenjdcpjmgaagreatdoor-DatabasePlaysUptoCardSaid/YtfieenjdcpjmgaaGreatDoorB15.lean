/- A part of the proof. -/
import Derived.Test.YtfieenjdcpjmgaaGreatDoorB09
import Derived.Test.YtfieenjdcpjmgaaGreatDoorB14
import Derived.Test.YtfieenjdcpjmgaaGreatDoorB11
import Derived.Test.YtfieenjdcpjmgaaGreatDoorB12
import Derived.Test.YtfieenjdcpjmgaaGreatDoorB10
import Derived.Test.YtfieenjdcpjmgaaGreatDoorB08
import Derived.Deep.Upon
import Derived.Test.YtfieenjdcpjmgaaGreatDoorB03
import Derived.RangeFuncNested
import Derived.RangeFuncBound
import Derived.RangeFuncCalls
import Derived.RangeFuncLeaves
import Derived.Shelf.Abstract
import Derived.Shelf.RegionOpen
import Derived.OwnWalkIn
import Derived.TacticsInMore
import Derived.LoopNIn
import Derived.LoopIn
import Derived.Scope
set_option maxRecDepth 100000
set_option maxHeartbeats 6000000
namespace Go.WW
open Go.RowKit
section
variable {P:Program} {ops:Array Oper}
def gV(vs:Nat→Value):List (Nat×Tmp)→Act→Act
 | [],a=>a
 |x::r,a=>gV vs r (a.put (some x.2) (vs x.1))
theorem Lr(vs:Nat→Value)(L M:List (Nat×Tmp)):∀a,gV vs (L++M) a=gV vs M (gV vs L a):=by
 induction L with
 |nil=>intro a;rfl
 |cons x r ih=>intro a;exact ih _
theorem GM{vs vs':Nat→Value}{L:List (Nat×Tmp)}(h:∀x∈L,vs x.1=vs' x.1):∀a,gV vs L a=gV vs' L a:=by
 induction L with
 |nil=>intro a;rfl
 |cons x r ih=>
  intro a
  show gV vs r _=gV vs' r _
  rw[h x (by simp),ih fun y hy=>h y (by simp[hy])]
theorem ahO{vs:Nat→Value}{L M:List (Nat×Tmp)}(h:L.Perm M):(L.map (·.2)).Nodup→∀a,gV vs L a=gV vs M a:=by
 induction h with
 |nil=>intro _ a;rfl
 |cons x _ ih=>intro hd a;exact ih (List.nodup_cons.1 hd).2 _
 |swap x y l=>
  intro hd a
  show gV vs l _=gV vs l _
  have hne:y.2≠x.2:=by
   intro e
   have:=(List.nodup_cons.1 hd).1
   simp[e]at this
  rw[Act.put_comm a (vs y.1) (vs x.1) (fun d e1 e2=>hne (by simp at e1 e2;rw[e1,e2]))]
 |trans h1 _ ih1 ih2=>intro hd a;exact(ih1 hd a).trans (ih2 ((h1.map _).nodup_iff.1 hd) a)
theorem ahP{o:Oper}{vs:Nat→Value}{L:List (Nat×Tmp)}(hs:∀cs b,o.op≠.select cs b)(h:∀x∈L,x.2∉o.looksAt ops∧o.dst≠some x.2){w:World} :
  ∀(a:Act) (K:Act→World→Prop),o.wp P (gV vs L a) w K never↔o.wp P a w (fun a' w'=>K (gV vs L a') w') never:=by
 induction L with
 |nil=>intro a K;exact Iff.rfl
 |cons x r ih=>
  intro a K
  refine(ih (fun y hy=>h y (by simp[hy])) _ K).trans ?_
  exact nU (ops:=ops) hs (fun d e=>by cases e;exact(h x (by simp)).1) (fun d e=>by cases e;exact(h x (by simp)).2)
def Dw(A:Nat→Value→World→Prop)(vs:Nat→Value)(w:World):List (Nat×Tmp)→Prop
 | []=>True
 |x::r=>A x.1 (vs x.1) w∧Dw A vs w r
theorem U4{A:Nat→Value→World→Prop}{vs:Nat→Value}{w:World}:∀{L:List (Nat×Tmp)},(∀x∈L,A x.1 (vs x.1) w)→Dw A vs w L
 | [],_=>trivial
 |x::_,h=>⟨h x (by simp),U4 fun y hy=>h y (by simp[hy])⟩
def GN(P:Program)(A:Nat→Value→World→Prop)(W:World)(a0:Act)(i:Nat)(o:Oper)(d:List (Nat×Tmp)):Prop:=
 ∀(vs:Nat→Value) (w:World),Below W.heap.size W w→Dw A vs w d→∀K:Act→World→Prop,(∀v a' w',a'=(gV vs d a0).put o.dst v→A i v w'→Below w.heap.size w w'→K a' w')→o.wp P (gV vs d a0) w K never
def Dx(P:Program)(A:Nat→Value→World→Prop)(W:World)(a0:Act)(Q:Act→World→Prop)(o:Oper)(d:List (Nat×Tmp)):Prop:=
 ∀(vs:Nat→Value) (w:World),Below W.heap.size W w→Dw A vs w d→o.wp P (gV vs d a0) w Q never
def Each(P:Program)(A:Nat→Value→World→Prop)(W:World)(a0:Act)(Q:Act→World→Prop):Nat→List Oper→List (List (Nat×Tmp))→Prop
 |_,[],_=>True
 |_,[o],D=>Dx P A W a0 Q o (D.headD [])
 |i,o::o2::rest,D=>GN P A W a0 i o (D.headD [])∧Each P A W a0 Q (i+1) (o2::rest) D.tail
theorem vw{A:Nat→Value→World→Prop}{W:World}{a0:Act}{Q:Act→World→Prop}{i:Nat}{o o2:Oper}{rest:List Oper}{d:List (Nat×Tmp)}{D:List (List (Nat×Tmp))}(h:GN P A W a0 i o d)(hr:Each P A W a0 Q (i+1) (o2::rest) D):Each P A W a0 Q i (o::o2::rest) (d::D):=⟨h,hr⟩
theorem ahQ{A:Nat→Value→World→Prop}{W:World}{a0:Act}{Q:Act→World→Prop}{i:Nat}{o:Oper}{d:List (Nat×Tmp)}(h:Dx P A W a0 Q o d):Each P A W a0 Q i [o] [d]:=h
theorem Each.get{A:Nat→Value→World→Prop}{W:World}{a0:Act}{Q:Act→World→Prop}:∀(l:List Oper) (D:List (List (Nat×Tmp))) (k:Nat),Each P A W a0 Q k l D→∀i o,l[i]?=some o→
  (i+1<l.length→GN P A W a0 (k+i) o (D.getD i []))∧(i+1=l.length→Dx P A W a0 Q o (D.getD i []))
 | [],_,_,_,i,o,h=>by simp at h
 | [o1],D,k,hE,i,o,h=>by
  cases i with
  |zero=>
   simp at h;subst h
   refine⟨fun h=>by simp at h,fun _=>?_⟩
   cases D<;>exact hE
  |succ i=>simp at h
 |o1::o2::rest,D,k,hE,i,o,h=>by
  cases i with
  |zero=>
   simp at h;subst h
   refine⟨fun _=>?_,fun h=>by simp at h⟩
   cases D<;>exact hE.1
  |succ i=>
   have:=Each.get (o2::rest) D.tail (k+1) hE.2 i o (by simpa using h)
   have e:D.tail.getD i []=D.getD (i+1) []:=by cases D<;>simp
   rw[e]at this
   refine⟨fun hi=>?_,fun hi=>this.2 (by simpa using hi)⟩
   have:=this.1 (by simpa using hi)
   rwa[show k+1+i=k+(i+1) by omega]at this
structure Ls(ops:Array Oper)(D:List (List (Nat×Tmp))):Prop where
 jl:Region.noSelect ops=true
 guard:∀(j:Nat) (oj:Oper),ops[j]?=some oj→oj.guard=none
 back:∀(j:Nat) (oj:Oper),ops[j]?=some oj→∀e∈oj.after,Region.binds .any e=true→e.on<j
 U5:∀(j:Nat) (oj:Oper),ops[j]?=some oj→∀(i:Nat) (oi:Oper),ops[i]?=some oi→i≠j→∀d,oi.dst=some d→oj.dst≠some d
 deps:∀(j:Nat) (oj:Oper),ops[j]?=some oj→∀x∈D.getD j [],(∃o:Oper,ops[x.1]?=some o∧o.dst=some x.2)∧∃e∈oj.after,Region.binds .any e=true∧e.on=x.1
 nodup:∀(j:Nat) (oj:Oper),ops[j]?=some oj→(D.getD j []).Nodup
 looks:∀(j:Nat) (oj:Oper),ops[j]?=some oj→∀(i:Nat) (oi:Oper),ops[i]?=some oi→i≠j→∀d,oi.dst=some d→(i,d)∈D.getD j []∨(d∉oj.looksAt ops∧j+1<ops.size)
 last:∀(j:Nat) (oj:Oper),ops[j]?=some oj→j+1=ops.size→∀i,i<j→∃e∈oj.after,Region.binds .any e=true∧e.on=i
def Lt(ops:Array Oper)(D:List (List (Nat×Tmp))):Bool:=
 Region.noSelect ops&&(List.range ops.size).all fun j=>match ops[j]? with
  |none=>true
  |some oj=>
   oj.guard.isNone&&
   oj.after.toList.all (fun e=>!Region.binds .any e || decide (e.on<j))&&
   (D.getD j []).all (fun x=>(match ops[x.1]? with|none=>false|some o=>o.dst == some x.2)&&oj.after.toList.any fun e=>Region.binds .any e&&e.on == x.1)&&
   decide ((D.getD j []).Nodup)&&
   ((List.range ops.size).all fun i=>i == j || match ops[i]? with
    |none=>true
    |some oi=>match oi.dst with
     |none=>true
     |some d=>oj.dst != some d&&((D.getD j []).contains (i,d) || (!(oj.looksAt ops).contains d&&decide (j+1<ops.size))))&&
   (decide (j+1<ops.size) || (List.range j).all fun i=>oj.after.toList.any fun e=>Region.binds .any e&&e.on == i)
theorem ahR{D:List (List (Nat×Tmp))}(h:Lt ops D=true):Ls ops D:=by
 unfold Lt at h
 simp only[Bool.and_eq_true,List.all_eq_true,List.mem_range]at h
 obtain⟨hs,h⟩:=h
 have lt:∀{j:Nat} {oj:Oper},ops[j]?=some oj→j<ops.size:=fun hj=>(Array.getElem?_eq_some_iff.1 hj).1
 refine⟨hs,fun j oj hj=>?_,fun j oj hj=>?_,fun j oj hj=>?_,fun j oj hj=>?_,fun j oj hj=>?_,fun j oj hj=>?_,fun j oj hj=>?_⟩
 all_goals
  have hh:=h j (lt hj)
  simp only[hj,Bool.and_eq_true,List.all_eq_true,List.mem_range]at hh
  obtain⟨⟨⟨⟨⟨h1,h2⟩,h3⟩,h4⟩,h5⟩,h6⟩:=hh
 ·simpa using h1
 ·intro e he hb
  have:=h2 e (by simpa using he)
  simpa[hb]using this
 ·intro i oi hi hne d hd
  have:=h5 i (lt hi)
  simp only[hi,hd,Bool.or_eq_true,beq_iff_eq,Bool.and_eq_true,bne_iff_ne]at this
  rcases this with h'|h'
  ·exact absurd h' hne
  ·exact h'.1
 ·intro x hx
  have:=h3 x hx
  obtain⟨ha,hb⟩:=this
  simp only[List.any_eq_true,Bool.and_eq_true,beq_iff_eq]at hb
  obtain⟨e,he,hbe⟩:=hb
  refine⟨?_,e,by simpa using he,hbe⟩
  cases hx1:ops[x.1]? with
  |none=>simp[hx1]at ha
  |some o=>simp[hx1]at ha;exact⟨o,rfl,ha⟩
 ·simpa using h4
 ·intro i oi hi hne d hd
  have:=h5 i (lt hi)
  simp only[hi,hd,Bool.or_eq_true,beq_iff_eq,Bool.and_eq_true,bne_iff_ne,List.contains_iff_mem,Bool.not_eq_true',decide_eq_true_eq]at this
  rcases this with h'|⟨_,h'|⟨h',h''⟩⟩
  ·exact absurd h' hne
  ·exact .inl h'
  ·exact .inr ⟨by simpa using h',h''⟩
 ·intro hlast i hi
  simp only[Bool.or_eq_true,decide_eq_true_eq,List.all_eq_true,List.mem_range]at h6
  rcases h6 with h6|h6
  ·omega
  ·have:=h6 i hi
   simp only[List.any_eq_true,Bool.and_eq_true,beq_iff_eq]at this
   obtain⟨e,he,hb⟩:=this
   exact⟨e,by simpa using he,hb⟩
structure Came(ops:Array Oper)(A:Nat→Value→World→Prop)(W:World)(a0:Act)(listed:Array Bool)(a:Act)(w:World)(vs:Nat→Value)(L:List (Nat×Tmp)):Prop where
 base:Below W.heap.size W w
 nodup:L.Nodup
 mem:∀x,x∈L↔listed.getD x.1 false=true∧∃o:Oper,ops[x.1]?=some o∧o.dst=some x.2
 act:a=gV vs L a0
 each:∀i,listed.getD i false=true→A i (vs i) w
theorem ahS{D:List (List (Nat×Tmp))}(hok:Ls ops D){L:List (Nat×Tmp)}(h:L.Nodup)(hm:∀x∈L,∃o:Oper,ops[x.1]?=some o∧o.dst=some x.2):(L.map (·.2)).Nodup:=by
 refine List.pairwise_map.2 (List.Pairwise.imp_of_mem (fun{x y} hx hy hne=>?_) h)
 intro e
 obtain⟨ox,hx1,hx2⟩:=hm x hx
 obtain⟨oy,hy1,hy2⟩:=hm y hy
 by_cases h1:x.1=y.1
 ·exact hne (Prod.ext h1 e)
 ·exact hok.U5 y.1 oy hy1 x.1 ox hx1 h1 x.2 hx2 (by rw[hy2,e])
theorem ahT{Q':Exit→Act→World→Prop}{A:Nat→Value→World→Prop}{W:World}{a0:Act}{D:List (List (Nat×Tmp))}(hok:Ls ops D)(hst:∀i v w w',A i v w→Below w.heap.size w w'→A i v w')
  (hstep:∀(i:Nat) (o:Oper),ops[i]?=some o→i+1<ops.size→GN P A W a0 i o (D.getD i [])) (hend:∀(i:Nat) (o:Oper),ops[i]?=some o→i+1=ops.size→Dx P A W a0 (fun a' w'=>Q' .normal a' w') o (D.getD i [])) :
  ∀(n:Nat) (U:List Nat) (listed:Array Bool) (a:Act) (w:World),U.length=n+1→U.Pairwise (· < ·)→listed.size=ops.size→(∀j,j∈U↔j<ops.size∧listed.getD j true=false)→(∃vs L,Came ops A W a0 listed a w vs L)→ops.size-1∈U→wpAny P .any ops Q' (n+1) listed a w:=by
 intro n
 induction n using Nat.strongRecOn with
 |_ n ih=>
  intro U listed a w hn hsort hsz hU hI hlu
  obtain⟨vs,L,hC⟩:=hI
  have Lu:∀{j:Nat},j<ops.size→(listed.getD j false=true↔¬listed.getD j true=false):=fun{j} hj=>by
   have:j<listed.size:=by omega
   simp[this]
  refine⟨fun hr=>?_,fun i hi=>?_⟩
  ·exfalso
   cases U with
   |nil=>simp at hn
   |cons j U=>
    obtain⟨hj,hjl⟩:=(hU j).1 (by simp)
    have hoj:ops[j]?=some ops[j]:=by simp[hj]
    have:j∈Region.ready .any ops listed:=by
     refine mem_ready.2 ⟨hjl,_,hoj,fun e he hb=>?_⟩
     have hlt:=hok.back j _ hoj e he hb
     have hnot:e.on∉j::U:=by
      intro hmem
      rcases List.mem_cons.1 hmem with h1|h1
      ·omega
      ·have:=(List.pairwise_cons.1 hsort).1 _ h1;omega
     exact(Lu (by omega)).2 fun hf=>hnot ((hU e.on).2 ⟨by omega,hf⟩)
    rw[hr]at this;cases this
  ·obtain⟨h0,o,ho,hall⟩:=mem_ready.1 hi
   have his:i<ops.size:=(Array.getElem?_eq_some_iff.1 ho).1
   have hiU:i∈U:=(hU i).2 ⟨his,h0⟩
   have hil:¬listed.getD i false=true:=fun h=>(Lu his).1 h h0
   have hsel:=(Region.noSelect_spec hok.jl i o · · ho)
   have hdl:∀x∈D.getD i [],listed.getD x.1 false=true∧∃o:Oper,ops[x.1]?=some o∧o.dst=some x.2:=fun x hx=>by
    obtain⟨h1,e,he,hb,e1⟩:=hok.deps i o ho x hx
    exact⟨e1▸hall e he hb,h1⟩
   have hwant:Region.wanted o (yielded ops a.tmps)=true:=by simp[Region.wanted,hok.guard i o ho]
   obtain⟨R,hR⟩:∃R,R=L.filter (fun x=>decide (x∉D.getD i [])):=⟨_,rfl⟩
   have GR:∀x,x∈R↔x∈L∧x∉D.getD i []:=fun x=>by rw[hR,List.mem_filter];simp
   have hnd:(D.getD i []++R).Nodup:=by
    refine List.nodup_append.2 ⟨hok.nodup i o ho,by rw[hR];exact hC.nodup.filter _,fun x hx y hy e=>?_⟩
    subst e
    exact((GR x).1 hy).2 hx
   have hmem:∀x,x∈D.getD i []++R↔x∈L:=fun x=>by
    rw[List.mem_append,GR,hC.mem]
    constructor
    ·rintro(h|h)
     ·exact hdl x h
     ·exact h.1
    ·intro h
     by_cases hx:x∈D.getD i []
     ·exact .inl hx
     ·exact .inr ⟨h,hx⟩
   have hperm:L.Perm (D.getD i []++R):=(List.perm_ext_iff_of_nodup hC.nodup hnd).2 fun x=>(hmem x).symm
   have hact:a=gV vs R (gV vs (D.getD i []) a0):=by
    rw[hC.act,ahO hperm (ahS hok hC.nodup fun x hx=>((hC.mem x).1 hx).2),Lr]
   have U6:Dw A vs w (D.getD i []):=U4 fun x hx=>hC.each x.1 (hdl x hx).1
   unfold wpOp
   simp only[ho,hwant,if_true]
   refine .inl (qL ?_)
   rw[hact]
   rcases Nat.lt_or_ge (i+1) ops.size with hlt|hge
   ·have hR1:∀x∈R,x.2∉o.looksAt ops∧o.dst≠some x.2:=fun x hx=>by
     obtain⟨hxL,LC⟩:=(GR x).1 hx
     obtain⟨hxl,ox,hox,GU⟩:=(hC.mem x).1 hxL
     have hne:x.1≠i:=fun e=>hil (e▸hxl)
     refine⟨?_,hok.U5 i o ho x.1 ox hox hne x.2 GU⟩
     rcases hok.looks i o ho x.1 ox hox hne x.2 GU with h1|h1
     ·exact absurd h1 LC
     ·exact h1.1
    refine(ahP (P:=P) (ops:=ops) hsel hR1 _ _).2 (hstep i o ho hlt vs w hC.base U6 _ fun v a' w' ha' hv hb=>?_)
    subst ha'
    have hiL:∀x∈D.getD i []++R,x.1≠i:=fun x hx e=>hil (e▸((hC.mem x).1 ((hmem x).1 hx)).1)
    obtain⟨U1,U2,rfl⟩:=List.append_of_mem hiU
    have dN:=List.pairwise_append.1 hsort
    have hlt1:∀x∈U1,x<i:=fun x hx=>dN.2.2 x hx i (by simp)
    have hgt2:∀x∈U2,i<x:=fun x hx=>(List.pairwise_cons.1 dN.2.1).1 x hx
    have U7:ops.size-1∈U1++U2:=by
     rcases List.mem_append.1 hlu with h|h
     ·simp[h]
     ·rcases List.mem_cons.1 h with h|h
      ·omega
      ·simp[h]
    have hpos:0<(U1++U2).length:=List.length_pos_of_mem U7
    obtain⟨m,rfl⟩:∃m,n=m+1:=⟨n-1,by simp at hn hpos;omega⟩
    refine ih m (by omega) (U1++U2) _ _ _ (by simp at hn ⊢;omega) ?_ (by simpa using hsz) ?_ ?_ U7
    ·exact List.pairwise_append.2 ⟨dN.1,(List.pairwise_cons.1 dN.2.1).2,fun x hx y hy=>dN.2.2 x hx y (by simp[hy])⟩
    ·intro j
     by_cases hji:j=i
     ·subst hji
      constructor
      ·intro hm
       exfalso
       rcases List.mem_append.1 hm with h1|h1
       ·have:=hlt1 _ h1;omega
       ·have:=hgt2 _ h1;omega
      ·rintro⟨_,hf⟩
       have:j<listed.size:=by omega
       simp[this]at hf
     ·rw[getD_set_ne true (Ne.symm hji),←hU j]
      simp[hji]
    ·obtain⟨vs',hvs⟩:∃vs':Nat→Value,vs'=fun k=>if k=i then v else vs k:=⟨_,rfl⟩
     have hsame:∀k,k≠i→vs k=vs' k:=fun k hk=>by rw[hvs];simp[hk]
     have U8:vs' i=v:=by rw[hvs];simp
     have hl':∀k,(listed.setIfInBounds i true).getD k false=true↔(k=i∨listed.getD k false=true):=fun k=>by
      by_cases hk:k=i
      ·subst hk
       have:k<listed.size:=by omega
       simp[this]
      ·rw[getD_set_ne false (Ne.symm hk)];simp[hk]
     have U9:∀k,(listed.setIfInBounds i true).getD k false=true→A k (vs' k) w':=fun k hk=>by
      rcases(hl' k).1 hk with rfl|hk1
      ·rw[U8];exact hv
      ·by_cases e:k=i
       ·subst e;exact absurd hk1 hil
       ·rw[←hsame k e];exact hst _ _ _ _ (hC.each k hk1) hb
     cases hd:o.dst with
     |none=>
      refine⟨vs',D.getD i []++R,ag hC.base hb,hnd,fun x=>?_,?_,U9⟩
      ·rw[hmem,hC.mem,hl']
       constructor
       ·exact fun h=>⟨.inr h.1,h.2⟩
       ·rintro⟨rfl|h1,h2⟩
        ·obtain⟨o',ho',hd'⟩:=h2
         rw[ho]at ho';cases ho'
         rw[hd]at hd';cases hd'
        ·exact⟨h1,h2⟩
      ·rw[Lr,←GM (L:=D.getD i []) fun x hx=>hsame _ (hiL x (List.mem_append_left _ hx)),←GM (L:=R) fun x hx=>hsame _ (hiL x (List.mem_append_right _ hx))]
       rfl
     |some d=>
      have hnew:(i,d)∉D.getD i []++R:=fun h=>hiL _ h rfl
      refine⟨vs',D.getD i []++(i,d)::R,ag hC.base hb,?_,fun x=>?_,?_,U9⟩
      ·have hp:((i,d)::(D.getD i []++R)).Perm (D.getD i []++(i,d)::R):=List.perm_middle.symm
       exact hp.nodup_iff.1 (List.nodup_cons.2 ⟨hnew,hnd⟩)
      ·have:x∈D.getD i []++(i,d)::R↔x=(i,d)∨x∈D.getD i []++R:=by
        simp only[List.mem_append,List.mem_cons]
        constructor
        iterate 2
         ·rintro(h|h|h)
          ·exact .inr (.inl h)
          ·exact .inl h
          ·exact .inr (.inr h)
       rw[this,hmem,hC.mem,hl']
       constructor
       ·rintro(rfl|h)
        ·exact⟨.inl rfl,o,ho,hd⟩
        ·exact⟨.inr h.1,h.2⟩
       ·rintro⟨h1|h1,h2⟩
        ·obtain⟨o',ho',hd'⟩:=h2
         rw[h1,ho]at ho';cases ho'
         rw[hd]at hd';cases hd'
         exact .inl (Prod.ext h1 rfl)
        ·exact .inr ⟨h1,h2⟩
      ·rw[Lr,←GM (L:=D.getD i []) fun x hx=>hsame _ (hiL x (List.mem_append_left _ hx))]
       show _=gV vs' R ((gV vs (D.getD i []) a0).put (some d) (vs' i))
       rw[U8,←GM (L:=R) fun x hx=>hsame _ (hiL x (List.mem_append_right _ hx))]
   ·have Va:i+1=ops.size:=by omega
    have hR0:R=[]:=by
     refine List.eq_nil_iff_forall_not_mem.2 fun x hx=>?_
     obtain⟨hxL,LC⟩:=(GR x).1 hx
     obtain⟨hxl,ox,hox,GU⟩:=(hC.mem x).1 hxL
     rcases hok.looks i o ho x.1 ox hox (fun e=>hil (e▸hxl)) x.2 GU with h1|h1
     ·exact LC h1
     ·omega
    have Vb:∀j∈U,j=i:=fun j hj=>by
     obtain⟨h1,h2⟩:=(hU j).1 hj
     rcases Nat.lt_or_ge j i with h3|h3
     ·obtain⟨e,he,hb,rfl⟩:=hok.last i o ho Va j h3
      exact absurd h2 ((Lu h1).1 (hall e he hb))
     ·omega
    obtain rfl:n=0:=by
     match U,hn,hsort,Vb with
     | [],hn,_,_=>simp at hn
     | [_],hn,_,_=>simp at hn;exact hn
     |x::y::r,_,hs,hu=>
      have h1:=hu x (by simp)
      have h2:=hu y (by simp)
      have:=(List.pairwise_cons.1 hs).1 y (by simp)
      omega
    rw[hR0]
    refine Oper.wp_mono (fun a' w' hq=>⟨?_,hq⟩) (hend i o ho Va vs w hC.base U6)
    cases hr:Region.ready .any ops (listed.setIfInBounds i true)with
    |nil=>rfl
    |cons j r=>
     have hj:j∈Region.ready .any ops (listed.setIfInBounds i true):=by rw[hr];simp
     obtain⟨hj0,oj,hoj,_⟩:=mem_ready.1 hj
     have hjs:j<ops.size:=(Array.getElem?_eq_some_iff.1 hoj).1
     by_cases hji:j=i
     ·subst hji
      have:j<listed.size:=by omega
      simp[this]at hj0
     ·rw[getD_set_ne true (Ne.symm hji)]at hj0
      exact absurd (Vb j ((hU j).2 ⟨hjs,hj0⟩)) hji
theorem ahW{id:Nat}{Q':Exit→Act→World→Prop}{a:Act}{W w:World}{l:List Oper}(A:Nat→Value→World→Prop)(D:List (List (Nat×Tmp)))(hW:Below W.heap.size W w)(hm:P.follows .mixedOrders=true)(hB:Lt l.toArray D=true)(hp:0<l.length)
  (hst:∀i v w w',A i v w→Below w.heap.size w w'→A i v w') (h:Each P A W a (fun a' w'=>Q' .normal a' w') 0 l D):(Code.region id l.toArray true).wp P Q' a w:=by
 refine wp_region_any hm ?_
 have hg:=Each.get l D 0 h
 obtain⟨n,hn⟩:∃n,l.length=n+1:=⟨l.length-1,by omega⟩
 have:=ahT (P:=P) (Q':=Q') (ahR hB) hst (fun i o ho hi=>by have:=(hg i o (by simpa using ho)).1 (by simpa using hi);rwa[Nat.zero_add]at this) (fun i o ho hi=>(hg i o (by simpa using ho)).2 (by simpa using hi)) n (List.range l.toArray.size) (Array.replicate l.toArray.size false) a w.drew
  (by simp[hn]) List.pairwise_lt_range (by simp) (by intro j;simp;intro h;simp[h]) ⟨fun _=>undef,[],hW.drew,List.nodup_nil,fun x=>?_,rfl,fun i hi=>?_⟩ (by simp;omega)
 ·rw[show n+1=l.toArray.size by simp[hn]]at this;exact this
 ·simp only[List.not_mem_nil,false_iff]
  rintro⟨hi,-⟩
  rw[Array.getD_eq_getD_getElem?,Array.getElem?_replicate]at hi;split at hi<;>simp at hi
 ·rw[Array.getD_eq_getD_getElem?,Array.getElem?_replicate]at hi;split at hi<;>simp at hi
end
end Go.WW
namespace Go.WW
open Go.RowKit
theorem Below.ahX{w w':World}{row:Option Nat}(h:w.grownBy w' row)(hr:∀k,k<w.heap.size→row=some k→w'.heap[k]?=w.heap[k]?):Below w.heap.size w w':=
 But.below (S:=fun _=>False) ⟨h.os,h.tape,h.output,h.size,fun k hk _=>by
  by_cases e:row=some k
  ·exact hr k hk e
  ·exact h.block k hk fun e'=>e e'.symm⟩ (Nat.le_refl _) (fun k hk=>hk.elim)
theorem ahY{P:Program}{o:Oper}{a:Act}{w:World}{K:Act→World→Prop}{Q:Exit→Act→World→Prop}(x y:Operand)(t:TypeId)(ho:o.op=.call {callee:=.builtin .append,args:=#[x,y],argTypes:=#[t,t]})
  {e:TypeId} {k bytes:Nat} (he:gp P t e k bytes) {base:Nat} {s:Sl} {rows:List (Array Value)} (hx:a.eval x=.slice s.a rows.length s.cap) (h:Own w base e k s rows) {A:Option Addr} {news:List (Array Value)} {m c:Nat}
  (hy:a.eval y=.slice A m c) (hm:m=news.length) (hs:cZ w k A news) (hlen:(rows.length+news.length)*(bytes+1)≤140737488355328) (hbase:base≤w.heap.size) (hfull:s.cap<rows.length+news.length∨news=[])
  (hK:∀(s':Sl) w',Own w' base e k s' (rows++news)→Below w.heap.size w w'→K (a.put o.dst (.slice s'.a (rows.length+news.length) s'.cap)) w'):o.wp P a w K Q:=by
 subst hm
 obtain⟨s',w',hrun,h2,h3,h4⟩:=Sm (ty:=o.type) he w h c hs hlen hbase
 have hB:Below w.heap.size w w':=by
  refine Below.ahX h3 fun k hk hbk=>?_
  obtain⟨i,z,hi,hz,h1,hby,hzs⟩:=he.info
  rcases Nat.eq_zero_or_pos news.length with hn|hn
  ·obtain rfl:news=[]:=List.eq_nil_of_length_eq_zero hn
   have hle:rows.length≤s.cap:=by
    rcases h.own.2 with⟨hv,hn⟩|⟨g,cap,cur,hv,_,_,hnc,_⟩
    ·omega
    ·injection hv with _ _ hc;omega
   have hr:=run_append_nothing (P:=P) w t t o.type e i he.und hi s.a rows.length s.cap hle (.slice A 0 c) (by
    cases A with
    |none=>exact Src.ofNil w he.und c
    |some ad=>exact Src.ofSlice w he.und ad 0 c [] (by simp) (by simp) (by simp))
   have hrun':=hr.symm.trans hrun
   injection hrun' with _ e2
   rw[←e2]
  ·rcases hfull with hfull|rfl
   ·obtain⟨b,ob,hA,hcs⟩:=hs.cells he.pos hn
    rcases h.own.2 with⟨hv,_⟩|⟨g,cap,cur,hv,h5⟩
    ·have:s.a=none:=by injection hv
     simp[Sl.blk,this]at hbk
    ·have ha:s.a=some ⟨g,0,none⟩:=by injection hv
     have holds:∀j u,(flat rows)[j]?=some u→w.cell? ((⟨g,0,none⟩:Addr).add j)=some u:=h.own.cells (g:=g) (by rw[yt];simp[Sl.blk,ha])
     have hr:=run_append_grow (P:=P) w t o.type e i z he.und hi hz ⟨g,0,none⟩ rows.length s.cap (flat rows) (by rw[h1];exact h.own.1) holds ⟨b,ob,none⟩ news.length c (flat news) (by rw[h1];exact flat_length hs.size) hcs hfull (by
      have:rows.length+news.length≤(rows.length+news.length)*(bytes+1):=Nat.le_mul_of_pos_right _ (by omega)
      omega) (growslice_fits (by omega) (by rw[hby];exact Nat.le_trans (Nat.mul_le_mul_left _ (by omega)) hlen))
     rw[←ha,←hA,hrun]at hr
     injection hr with _ e2
     rw[e2]
     exact(heap_alloc_old w.drew _ hk).trans rfl
   ·simp at hn
 unfold Oper.wp execOp
 simp only[ho,resolve,invoke,builtin,Sem.run_bind,Sem.run_pure,Result.andThen_ok,List.map_toArray,List.map_cons,List.map_nil,hx,hy,hrun]
 exact hK s' w' h2 hB
theorem ahZ{s s':Sl}{p:az}(h:ah s p=ah s' p):s=s':=by
 have:=congrArg (·[0]?) h
 simp[ah]at this
 cases s;cases s';simp at this;simp[this]
theorem ah0{w:World}{S:Nat→Prop}{a:Option Addr}{l:List az}(h:bH w S (fun x=>fJ x a l)):∃X:List PP,X.map (·.2)=l∧bH w S (fun x=>tX x a X):=by
 rcases Nat.eq_zero_or_pos l.length with h0|h0
 ·obtain rfl:l=[]:=List.eq_nil_of_length_eq_zero h0
  exact⟨[],rfl,fun x _=>⟨by simp,by simp,by simp⟩⟩
 obtain⟨b,o,s0,rfl,hr0,_⟩:=h.out.get 0 h0
 have hSb:S b:=by
  refine Classical.byContradiction fun hn=>?_
  have hx:=h (w.putObj b (.deferred none)) fun k hk=>World.putObj_heap_other (fun e=>hn (e▸hk))
  obtain⟨s,hr,_⟩:=hx.at 0 h0
  unfold row? at hr
  rw[World.putObj_heap_same (gm hr0)]at hr
  cases hr
 have hs:∀i:Fin l.length,∃s,row? w b (o+i.1*2) 2=some (ah s l[i.1])∧bn w s l[i.1]:=fun i=>h.out.at i.1 i.2
 obtain⟨f,hf⟩:=Classical.axiomOfChoice hs
 refine⟨List.ofFn (fun i:Fin l.length=>(f i,l[i.1])),?_,fun x hx=>?_⟩
 ·rw[List.map_ofFn]
  exact List.ofFn_getElem
 ·have hp:=h x hx
  have hrow:∀i (hi:i<l.length),row? x b (o+i*2) 2=some (ah (f ⟨i,hi⟩) l[i]):=fun i hi=>(gZ (hx b hSb) _ _).trans (hf ⟨i,hi⟩).1
  refine⟨by have:=hp.1;simp;omega,fun i hi=>⟨b,o,rfl,?_⟩,fun y hy=>?_⟩
  ·simp at hi
   rw[hrow i hi]
   simp[yG]
  ·obtain⟨i,hi,rfl⟩:=List.getElem_of_mem hy
   simp at hi
   obtain⟨s,h1,h2⟩:=hp.at i hi
   rw[hrow i hi]at h1
   have:=ahZ (Option.some.inj h1)
   simp[this]
   exact h2
theorem tX.box{y x:World}{a:Option Addr}{X:List PP}{b:Nat}{t:TypeId}(h:tX y a X)(hb:y.heap[b]?=some (.cells #[.slice none 0 0] t))(hx:∀k,k≠b→x.heap[k]?=y.heap[k]?):tX x a X:=by
 refine⟨h.len,fun i hi=>?_,fun p hp=>?_⟩
 ·obtain⟨g,o,ha,hr⟩:=h.rows i hi
  refine⟨g,o,ha,(gZ (hx g ?_) _ _).trans hr⟩
  rintro rfl
  rw[bQ hb]at hr
  unfold fO at hr
  rw[if_neg (by simp)]at hr
  cases hr
 ·obtain⟨⟨h1,h2⟩,h3⟩:=h.each p hp
  refine⟨⟨h1,fun i hi=>?_⟩,h3⟩
  obtain⟨g,o,v,ha,hc,s,hs,rfl,hl⟩:=h2 i hi
  refine⟨g,o,_,ha,(World.cell?_of_block (a:=⟨g,o+i,none⟩) (hx g ?_)).trans hc,s,hs,rfl,hl⟩
  rintro rfl
  obtain⟨hcc,-⟩:=aB hb
  have:=(hcc (o+i)).symm.trans hc
  rcases Nat.eq_zero_or_pos (o+i)with e|e
  ·rw[e]at this;cases this
  ·rw[Array.getElem?_eq_none (by simp;omega)]at this;cases this
theorem own_base{w:World}{base base':Nat}{e:TypeId}{k:Nat}{v:Value}{n:Nat}{xs:List Value}(h:w.ownsRow base e k v n xs)(hb:base'≤base):w.ownsRow base' e k v n xs:=by
 refine⟨h.1,?_⟩
 rcases h.2 with h|⟨g,cap,cur,h1,h2,h3⟩
 ·exact .inl h
 ·exact .inr ⟨g,cap,cur,h1,Nat.le_trans hb h2,h3⟩
end Go.WW
namespace Go.Proofs.YtfieenjdcpjmgaaGreatDoor
open Go.RowKit Go.WW
def xh(W:World)(B:Nat)(r:aN)(d:Entry):Nat→Value→World→Prop
 |0,v,_=>v=.pointer (some ⟨B,0,none⟩)
 |1,v,_=>v=.agg (ah r.parts d.name)
 |2,v,y=>∃s,v=.agg (ah s d.name)∧bH y (fresh W.heap.size y) (fun x=>bn x s d.name)
 |3,v,y=>∃s g,v=.slice (some ⟨g,0,none⟩) 1 1∧Go.WW.Own y W.heap.size 40 2 ⟨some ⟨g,0,none⟩,1⟩ [ah s d.name]∧bH y (fresh W.heap.size y) (fun x=>bn x s d.name)
 |4,v,_=>v=.pointer (some ⟨B,2,none⟩)
 |5,v,_=>v=.slice r.aliases.a d.aliases.length r.aliases.cap
 |6,v,y=>∃s:Sl,v=.slice s.a d.aliases.length s.cap∧bH y (fresh W.heap.size y) (fun x=>fJ x s.a d.aliases)
 |7,v,y=>∃(s:Sl) (X:List PP),v=.slice s.a X.length s.cap∧X.map (·.2)=d.name::d.aliases∧bH y (fresh W.heap.size y) (fun x=>tX x s.a X)
 |8,v,y=>∃b,v=.pointer (some ⟨b,0,none⟩)∧W.heap.size≤b∧y.heap[b]?=some (.cells #[.slice none 0 0] 41)
 |_,_,_=>True
theorem yH{W y y':World}{Φ:World→Prop}(h:bH y (fresh W.heap.size y) Φ)(hb:Below y.heap.size y y'):bH y' (fresh W.heap.size y') Φ:=
 h.to (fun k hk=>hb.block k hk.2) (fun _ hk=>⟨hk.1,Nat.lt_of_lt_of_le hk.2 hb.size⟩)
theorem ah1(W:World)(B:Nat)(r:aN)(d:Entry):∀i v w w',xh W B r d i v w→Below w.heap.size w w'→xh W B r d i v w'
 |0,_,_,_,h,_=>h
 |1,_,_,_,h,_=>h
 |2,_,_,_,⟨s,h1,h2⟩,hb=>⟨s,h1,yH h2 hb⟩
 |3,_,_,_,⟨s,g,h1,h2,h3⟩,hb=>⟨s,g,h1,h2.kept fun _ hk=>hb.block _ (h2.base hk).2,yH h3 hb⟩
 |4,_,_,_,h,_=>h
 |5,_,_,_,h,_=>h
 |6,_,_,_,⟨s,h1,h2⟩,hb=>⟨s,h1,yH h2 hb⟩
 |7,_,_,_,⟨s,X,h1,h2,h3⟩,hb=>⟨s,X,h1,h2,yH h3 hb⟩
 |8,_,_,_,⟨b,h1,h2,h3⟩,hb=>⟨b,h1,h2,aJ hb h3⟩
 |_+9,_,_,_,_,_=>trivial
theorem ah2{W:World}{B:Nat}{r:aN}{d:Entry}{a0:Act}{Q:Act→World→Prop}{o:Oper}
  (h:∀vs y (s:Sl) (X:List PP) b,Below W.heap.size W y→vs 7=.slice s.a X.length s.cap→X.map (·.2)=d.name::d.aliases→bH y (fresh W.heap.size y) (fun x=>tX x s.a X)→vs 8=.pointer (some ⟨b,0,none⟩)→W.heap.size≤b→y.heap[b]?=some (.cells #[.slice none 0 0] 41)→
   o.wp Tryz.prog (gV vs [(0,4),(1,5),(2,6),(3,7),(4,8),(5,9),(6,10),(7,11),(8,3)] a0) y Q never):Dx Tryz.prog (xh W B r d) W a0 Q o [(0,4),(1,5),(2,6),(3,7),(4,8),(5,9),(6,10),(7,11),(8,3)]:=by
 intro vs y hy hA
 obtain⟨s,X,h7,GV,hd⟩:=hA.2.2.2.2.2.2.2.1
 obtain⟨b,h8,Vd,hb8⟩:=hA.2.2.2.2.2.2.2.2.1
 exact h vs y s X b hy h7 GV hd h8 Vd hb8
theorem LG(r:aN)(d:Entry)(w:World)(he:bK w r d):Calls Tryz.prog 64 #[.agg (ae r d)] w fun e w'=>∃(b:Nat) (s:Sl) (X:List PP),e=.returned (.func (.func 126) #[] #[.pointer (some ⟨b,0,none⟩)])∧Below w.heap.size w w'∧w.heap.size≤b∧w'.heap[b]?=some (.cells #[.slice s.a X.length s.cap] 41)∧X.map (·.2)=d.name::d.aliases∧bH w' (fresh w.heap.size w') (fun x=>tX x s.a X):=by
 have hB:Below w.heap.size w (w.alloc (.cells (ae r d) 47)):=(Below.refl _ _).alloc (Nat.le_refl _) _
 have hx3:(w.alloc (.cells (ae r d) 47)).heap[w.heap.size]?=some (.cells (ae r d) 47):=World.alloc_heap_new _ _
 have hW:w.heap.size<(w.alloc (.cells (ae r d) 47)).heap.size:=by simp
 go_enter Tryz.func64,Tryz.ntmps64
 go_wp2_with fail
 have he':=he.later hB
 generalize (w.alloc (.cells (ae r d) 47))=W at *
 have hx2:row? W w.heap.size 0 2=some (ah r.parts d.name):=by rw[bQ hx3];rfl
 obtain⟨hc0,hf0,hr0,hl0⟩:=aB hx3
 refine ahW (xh W w.heap.size r d) [[],[(0,4)],[(1,5)],[(2,6)],[],[(4,8)],[(5,9)],[(3,7),(6,10)],[],[(0,4),(1,5),(2,6),(3,7),(4,8),(5,9),(6,10),(7,11),(8,3)]] (Below.refl _ W) (by kernel_rfl) (by kernel_rfl) (by simp) (ah1 _ _ _ _) ?_
 refine vw ?_ (vw ?_ (vw ?_ (vw ?_ (vw ?_ (vw ?_ (vw ?_ (vw ?_ (vw ?_ (ahQ ?_)))))))))
 ·intro vs y hy hA K hK
  simp only[gV]at hK ⊢
  go_wp2_with fail
  exact hK _ _ _ rfl rfl (Below.refl _ _)
 ·intro vs y hy hA K hK
  have h0:=hA.1
  simp only[gV]at hK ⊢
  simp only[xh]at h0
  rw[h0]at hK ⊢
  have hr2:=(gZ (hy.block _ hW) _ _).trans hx2
  clear hx2
  go_wp2_with fail
  exact hK _ _ _ rfl rfl (Below.refl _ _)
 ·intro vs y hy hA K hK
  have h0:=hA.1
  simp only[gV]at hK ⊢
  simp only[xh]at h0
  rw[h0]at hK ⊢
  go_wp2_with fail
  refine(KR _ _ _ (he'.name.later hy)).mono ?_
  rintro e y2 ⟨s,rfl,hb,hd⟩
  dsimp only
  exact hK _ _ _ rfl ⟨s,rfl,hd.to (fun _ _=>rfl) (fun k hk=>⟨Nat.le_trans hy.size hk.1,hk.2⟩)⟩ hb
 ·intro vs y hy hA K hK
  obtain⟨s,h0,hd⟩:=hA.1
  simp only[gV]at hK ⊢
  rw[h0]at hK ⊢
  go_wp2_with fail
  have ho:=Own.one y (ah s d.name) 40 2 (by simp[go_sem])
  exact hK _ _ _ rfl ⟨s,y.heap.size,rfl,⟨own_base ho.own hy.size,ho.size⟩,yH hd ((Below.refl _ _).alloc (Nat.le_refl _) _)⟩ ((Below.refl _ _).alloc (Nat.le_refl _) _)
 ·intro vs y hy hA K hK
  simp only[gV]at hK ⊢
  go_wp2_with fail
  exact hK _ _ _ rfl rfl (Below.refl _ _)
 ·intro vs y hy hA K hK
  have h0:=hA.1
  simp only[gV]at hK ⊢
  simp only[xh]at h0
  rw[h0]at hK ⊢
  obtain⟨hc,hf,hr⟩:=bg hy
  go_wp2_with fail
  exact hK _ _ _ rfl rfl (Below.refl _ _)
 ·intro vs y hy hA K hK
  have h0:=hA.1
  simp only[gV]at hK ⊢
  simp only[xh]at h0
  rw[h0]at hK ⊢
  go_wp2_with fail
  refine(KT _ _ _ _ (he'.aliases.later hy)).mono ?_
  rintro e y2 ⟨s,rfl,hb,hd⟩
  dsimp only
  exact hK _ _ _ rfl ⟨s,rfl,hd.to (fun _ _=>rfl) (fun k hk=>⟨Nat.le_trans hy.size hk.1,hk.2⟩)⟩ hb
 ·intro vs y hy hA K hK
  obtain⟨s,g,h0,hown,hd⟩:=hA.1
  obtain⟨s6,h6,hd6⟩:=hA.2.1
  simp only[gV]at hK ⊢
  rw[h0,h6]at hK ⊢
  obtain⟨X6,Ve,LH⟩:=ah0 hd6
  have yI:d.aliases.length=X6.length:=by rw[←Ve];simp
  refine ahY (.tmp 7) (.tmp 10) 41 rfl AB (s:=⟨some ⟨g,0,none⟩,1⟩) (rows:=[ah s d.name]) rfl hown (A:=s6.a) (news:=X6.map yG) (m:=d.aliases.length) (c:=s6.cap) rfl (by simp[yI]) ⟨?_,?_,?_⟩ ?_ hy.size ?_ ?_
  iterate 2
   ·intro q hq
    obtain⟨p,_,rfl⟩:=List.mem_map.1 hq
    simp[yG,go_sem]
  ·intro i hi
   obtain⟨b,o,e1,e2⟩:=LH.out.rows i (by simpa using hi)
   exact⟨b,o,e1,by simpa using e2⟩
  ·have:=LH.out.len
   simp[lim]at this ⊢
   omega
  ·rcases Nat.eq_zero_or_pos X6.length with e|e
   ·right
    rw[List.eq_nil_of_length_eq_zero e];rfl
   ·left
    simp;omega
  ·intro s' y2 hown' hb
   refine hK (.slice s'.a ([ah s d.name].length+(X6.map yG).length) s'.cap) _ _ rfl ⟨s',(s,d.name)::X6,by simp[Nat.add_comm],by simp[Ve],fun x hx=>⟨?_,fun i hi=>?_,fun p hp=>?_⟩⟩ hb
   ·have:=hd6.out.1
    rw[yI]at this
    simp;omega
   ·obtain⟨gg,e1,-,e2⟩:=(hown'.kept fun k hk=>hx k (hown'.base hk)).row i (by simp at hi ⊢;omega)
    refine⟨gg,0,e1,e2.trans ?_⟩
    cases i with
    |zero=>rfl
    |succ i=>simp
   ·rcases List.mem_cons.1 hp with rfl|hp
    ·exact yH hd hb x hx
    ·exact(yH LH hb x hx).each p hp
 ·intro vs y hy hA K hK
  simp only[gV]at hK ⊢
  go_wp2_with fail
  exact hK _ _ _ rfl ⟨y.heap.size,rfl,hy.size,World.alloc_heap_new _ _⟩ ((Below.refl _ _).alloc (Nat.le_refl _) _)
 ·refine ah2 ?_
  intro vs y s X b hy h7 GV hd h8 Vd hb8
  simp only[gV]
  rw[h7,h8]
  have hc:=(aB hb8).1
  have hf:=(aB hb8).2.1
  have hl:=(aB hb8).2.2.2
  clear hc0 hf0 hr0 hl0
  go_wp2_with fail
  have hWs:=hB.size
  have hset:=dI (o:=0) (.slice s.a X.length s.cap) hb8
  have hoth:∀k,k≠b→(y.setCell ⟨b,0,none⟩ (.slice s.a X.length s.cap)).heap[k]?=y.heap[k]?:=fun k hk=>Below.heap_setCell _ _ _ _ hk
  have hbel:Below w.heap.size w (y.setCell ⟨b,0,none⟩ (.slice s.a X.length s.cap)):=(ag hB hy).setCell (show w.heap.size≤b by omega) _
  have hsz:(y.setCell ⟨b,0,none⟩ (.slice s.a X.length s.cap)).heap.size=y.heap.size:=by simp[World.setCell]
  go_ret
  refine⟨b,s,X,rfl,hbel,by omega,hset,GV,fun x hx=>?_⟩
  have hxb:x.heap[b]?=some (.cells #[.slice s.a X.length s.cap] 41):=(hx b ⟨by omega,by omega⟩).trans hset
  have hxl:b<x.heap.size:=(Array.getElem?_eq_some_iff.1 hxb).1
  refine tX.box (b:=b) (t:=41) (hd (x.putObj b (.cells #[.slice none 0 0] 41)) fun k hk=>?_) (World.putObj_heap_same hxl) (fun k hk=>(World.putObj_heap_other hk).symm)
  by_cases e:k=b
  ·subst e;rw[World.putObj_heap_same hxl];exact hb8.symm
  ·rw[World.putObj_heap_other e,hx k ⟨by have:=hk.1;omega,by have:=hk.2;omega⟩];exact hoth k e
end Go.Proofs.YtfieenjdcpjmgaaGreatDoor
namespace Go.WW
open Go.RowKit
variable {F:Fence} {n:Nat} {P:Program}
section
variable {b:Frame} {a:Act} {k:List Item} {cs:List Frame} {w:World} {Q:Exit→Act→World→Prop}
theorem AP{c:Code}:step P (lone (b.atR a (.code (.scope c)::k)) cs w)=.next (lone (b.atR a (.code c::.inScope c::k)) cs w):=
 step_lone_go (by simp[stepG,stepG.exec,Frame.atR])
theorem ah3{c:Code}:step P (lone (b.atR a (.inScope c::k)) cs w)=.next (lone (b.atR a k) cs w):=
 step_lone_go (by simp[stepG,stepG.exec,Frame.atR])
theorem ah4{c:Code}(h:c.wpIn F n P (Exit.noGoto Q) a w):(Code.scope c).wpIn F n P Q a w:=by
 intro b k cs hro hb hr
 have h0:(lone (b.atR a (.code (.scope c)::k)) cs w).fenced P F:=fenced_calm hb hr rfl
 obtain⟨e,a₁,w₁,hq,harr⟩:=h b (.inScope c::k) cs hro hb hr
 cases e with
 |normal=>exact⟨.normal,a₁,w₁,hq,.head h0 AP (StepsIn.trans harr (.one (fenced_calm hb hr rfl) ah3))⟩
 |exit id=>
  have hx:exitTo id (.inScope c::k)=exitTo id k:=by simp[exitTo]
  exact⟨.exit id,a₁,w₁,hq,fun k' hk=>.head h0 AP (harr.1 k' (by rw[hx];exact hk)),fun hr' hk=>let⟨k₁,h1,h2⟩:=harr.2 hr' (by rw[hx];exact hk);⟨k₁,h1,.head h0 AP h2⟩⟩
 |goto l=>exact hq.elim
 |ret=>exact⟨_,a₁,w₁,hq,.of_steps (.one h0 AP) harr⟩
 |panic ch=>exact⟨_,a₁,w₁,hq,.of_steps (.one h0 AP) harr⟩
 |outgrown=>exact⟨_,a₁,w₁,hq,.of_steps (.one h0 AP) harr⟩
end
end Go.WW
namespace Go.WW.TI
open Go.RowKit
def oz(T:TypeId)(o:Oper):Bool:=fQ o&&(match o.op with | .load t _=>t != T|_=>true)
theorem ah5{T:TypeId}{o:Oper}(h:oz T o=true):fQ o=true:=by
 unfold oz at h
 simp only[Bool.and_eq_true]at h
 exact h.1
section
variable {F:Fence} {P:Program} {ops:Array Oper} {S:World→Prop} {T:TypeId} {Q:Act→World→Prop}
theorem LJ{o:Oper}{rest:List Oper}{a:Act}{w:World}(hw:Region.wanted o (yielded ops a.tmps)=true)(hs:oz T o=true)
  (h:∀K:Act→Prop,(∀a',aH F P ops (oz T) S Q rest a' w→K a')→o.quiet P a S K):aH F P ops (oz T) S Q (o::rest) a w:=by
 rw[bJ,if_pos hw,if_pos hs]
 obtain⟨v,hv,hh⟩:=h _ (fun _ x=>x)
 refine⟨v,fun w' hw'=>?_,hh⟩
 have:=hv w' hw'
 unfold Oper.quietAt at this
 rcases KE (P:=P) (ah5 hs) a.eval w' with⟨u,w'',e⟩|⟨x,w'',e⟩
 ·rw[e]at this ⊢
  obtain⟨rfl,rfl⟩:=this
  rfl
 ·rw[e]at this
  exact this.elim
theorem Vf{l:Nat}{o:Oper}{rest:List Oper}{a:Act}{w:World}(hw:Region.wanted o (yielded ops a.tmps)=true)(hs:oz T o=false)(hnd:AO o=false)
  (h:∀K:Act→World→Prop,(∀a' w',S w'→aH (Fence.wide.inRound l) P ops (oz T) S Q rest a' w'→K a' w')→o.wp P a w K never):aH (Fence.wide.inRound l) P ops (oz T) S Q (o::rest) a w:=by
 rw[bJ,if_pos hw,if_neg (by simp[hs])]
 exact UW (fun c hc=>by simp[AO,hc]at hnd) (h _ (fun _ _ x y=>⟨x,y⟩))
theorem ah6{l:Nat}{o:Oper}{rest:List Oper}{a:Act}{w:World}(hw:Region.wanted o (yielded ops a.tmps)=true)(hs:oz T o=false)
  (h:∀K:Act→World→Prop,(∀a' w',S w'→aH (Fence.wide.inRound l) P ops (oz T) S Q rest a' w'→K a' w')→o.wpIn (Fence.wide.inRound l) 0 P a w K never):aH (Fence.wide.inRound l) P ops (oz T) S Q (o::rest) a w:=by
 rw[bJ,if_pos hw,if_neg (by simp[hs])]
 exact h _ (fun _ _ x y=>⟨x,y⟩)
end
theorem ah7{P:Program}{id l:Nat}{Q':Exit→Act→World→Prop}{a:Act}{W w:World}{ops:List Oper}(T:TypeId)(S:Nat→Prop)(hW:But S W w)(hm:P.follows .mixedOrders=true)(hB:lW (oz T) ops.toArray=true)(hnd:GI ops=true)
  (h:aH (Fence.wide.inRound l) P ops.toArray (oz T) (nK S W) (fun a' w'=>Q' .normal a' w') ops a w.drew):(Code.region id ops.toArray true).wpIn (Fence.wide.inRound l) 0 P Q' a w:=
 UU (fun _=>trivial) rfl (nK S W) (oz T) hm hB hnd ⟨⟨w.drew,hW.drew⟩,rfl⟩ h
end Go.WW.TI
namespace Go.WW
open Go.RowKit
def VN(_:Nat)(x:PP)(v:Array Value)(W0 W1:World):Prop:=∃s,v=#[.agg (ah s x.2)]∧bH W1 (fresh W0.heap.size W1) (fun y=>bn y s x.2)
end Go.WW
namespace Go.Proofs.YtfieenjdcpjmgaaGreatDoor
open Go.RowKit Go.WW
attribute [local go_sem] Oper.semAt_some
theorem LM(b:Nat)(s:Sl)(X:List PP)(S:Nat→Prop)(w:World)(hc:w.heap[b]?=some (.cells #[.slice s.a X.length s.cap] 41))(hS:∀k,S k→k<w.heap.size)(hL:∀y,But (Off S w) w y→tX y s.a X) :
  Ll Tryz.prog 126 #[.pointer (some ⟨b,0,none⟩)] S X VN w:=by
 intro l J Jx W hW hl1 hl2 h0 hJ hJx hY
 have hWc:W.cell? ⟨b,0,none⟩=some (.slice s.a X.length s.cap):=(aB (aJ hW hc)).1 0
 have hbl:b<W.heap.size:=World.block_lt_of_cell? W _ hWc
 have HJ:=Lib.hid hJ
 have Lm:=Lib.hid hJx
 have HY:=Lib.hid hY
 have HL:=Lib.hid hL
 have H0:=Lib.hid h0
 clear hJ hJx hY hL h0
 obtain⟨W1,hW1⟩:∃W1,W1=W.alloc (.cells #[.func (.yield l) #[] #[]] 64):=⟨_,rfl⟩
 obtain⟨W2,hW2⟩:∃W2,W2=W1.alloc (.cells #[.slice s.a X.length s.cap] 41):=⟨_,rfl⟩
 have hs1:W1.heap.size=W.heap.size+1:=by rw[hW1];simp
 have hb1:Below W.heap.size W W1:=by rw[hW1];exact(Below.refl _ _).alloc (Nat.le_refl _) _
 have hb2:Below W.heap.size W W2:=by rw[hW2];exact hb1.alloc hb1.size _
 have hs2:W2.heap.size=W.heap.size+2:=by rw[hW2];simp[hs1]
 have hy1:W2.heap[W.heap.size]?=some (.cells #[.func (.yield l) #[] #[]] 64):=by
  rw[hW2,Below.heap_alloc _ _ _ (by omega),hW1];exact World.alloc_heap_new _ _
 have hy2:W2.cell? ⟨W.heap.size+1,0,none⟩=some (.slice s.a X.length s.cap):=by
  have:=World.alloc_heap_new W1 (.cells #[.slice s.a X.length s.cap] 41)
  rw[←hW2,hs1]at this
  exact(aB this).1 0
 refine(callsIn_wide (n:=0)).1 ?_
 refine callsIn_of_wp_marks Tryz.func126 rfl trivial ?_ rfl
 simp only[Tryz.ntmps126,List.size_toArray,List.length_cons,List.length_nil,Nat.reduceAdd,Nat.reduceSub,Array.replicate_succ,Array.replicate_zero,List.push_toArray,List.append_toArray,List.nil_append,List.cons_append]
 gi_wp2
 refine ah4 ?_
 gi_wp2
 refine wpIn_label ?_
 gi_wp2
 refine⟨trivial,rfl,(callsIn_wide.2 (ahL _ _ _ _)).mono ?_⟩
 rintro e w' ⟨rfl,rfl⟩
 rw[←hW1,hs1,←hW2]
 clear hW1 hW2
 gi_wp2
 have hwW:=hW.size
 refine(wpIn_wide (n:=0)).2 ?_
 refine GL (gf:=205) (lb:=#[.pointer (some ⟨W.heap.size+1,0,none⟩)]) (by simp[go_sem]) (enters_of Tryz.func205 (by kernel_rfl) rfl) (S:=fun k=>S k∨k=l) ?_ (xs:=X) (V:=UZ (fun k=>S k∨k=l) W2) ?_ (ahM _ s.cap s.a X _ W2 hy2 ?_)
  (fun c1 k Wc=>J c1 k Wc∧Wc.heap[W.heap.size]?=some (.cells #[.func (.yield l) #[] #[]] 64)∧But (Off (fun k=>S k∨k=l) W2) W2 Wc∧W2.heap.size<c1) (fun c c1 k Wc=>c=.exit 0∧Jx c1 k Wc∧W2.heap.size<c1) ?_ ?_ ?_ ?_ ?_ ?_
 ·rintro k (hk|rfl)
  ·have:=hS k hk;omega
  ·omega
 ·rintro c1 x v W0 Wc ⟨rfl,_⟩;rfl
 ·intro y hy
  refine HL.out y ((But.of_below (ag hW hb2)).trans (hy.mono fun k hk=>?_))
  rcases hk with(hk|rfl)|hk
  ·exact .inl hk
  ·exact .inr hl1
  ·exact .inr (by omega)
 ·intro c1 Wc h1 h2 hb
  exact⟨H0.out c1 Wc (by omega) h2 (ag hb2 hb),aJ hb hy1,But.of_below hb,h1⟩
 ·rintro c1 k Wc yJ ⟨h1,h2,h3,h4⟩ hb
  exact⟨HJ.out _ _ _ _ h1 (hb.mono fun k hk=>⟨by have:=hk.1;omega,hk.2⟩),(hb.block _ (Array.getElem?_eq_some_iff.1 h2).1 (fun h=>by have:=h.1;omega)).trans h2,h3.trans (hb.mono fun k hk=>.inr (by have:=hk.1;omega)),h4⟩
 ·rintro c c1 k Wc yJ ⟨rfl,h1,h2⟩ hb
  exact⟨rfl,Lm.out _ _ _ _ h1 (hb.mono fun k hk=>⟨by have:=hk.1;omega,hk.2⟩),h2⟩
 ·rintro c1 k x v W0 Wc hx ⟨rfl,hp⟩ ⟨hj,LQ,rF,hc0⟩ hbs hc1 xm
  have hsW:=hbs.size
  have hc2:c1≤Wc.heap.size:=Nat.le_trans xm hsW
  have LU:=(hbs.block _ (Array.getElem?_eq_some_iff.1 LQ).1 (fun h=>by have:=h.1;omega)).trans LQ
  have hbu:=rF.trans (hbs.mono fun k hk=>(.inr (by have:=hk.1;omega):Off (fun k=>S k∨k=l) W2 k))
  have ah8:But (span W.heap.size c1) W0 Wc:=hbs.mono fun k hk=>⟨by have:=hk.1;omega,hk.2⟩
  obtain⟨s0,p⟩:=x
  have HP:=Lib.hid hp
  have HJ0:=Lib.hid hj
  clear hp hj
  simp only[yG]
  gi_wp2
  have hcl:W.heap.size<Wc.heap.size:=(Array.getElem?_eq_some_iff.1 LU).1
  have hal:Below Wc.heap.size Wc (Wc.alloc (.cells (ah s0 p) 40)):=(Below.refl _ _).alloc (Nat.le_refl _) _
  refine⟨hal,fun U hU=>?_⟩
  have qj:U.heap[Wc.heap.size]?=some (.cells (ah s0 p) 40):=(hU.block _ (by simp) (bu (by omega))).trans (World.alloc_heap_new _ _)
  have LW:U.heap[W.heap.size]?=some (.cells #[.func (.yield l) #[] #[]] 64):=(hU.block _ (by simp;omega) (bu (by omega))).trans (aJ hal LU)
  have mf:But (Off (fun k=>S k∨k=l) W2) W2 U:=(hbu.trans (But.of_below hal)).trans (hU.mono fun k hk=>.inr (by have:k=_:=hk;omega))
  have vC:=HP.out U mf
  have aia:But (span W.heap.size c1) W0 U:=ah8.trans ((But.of_below hal).trans (hU.mono fun k hk=>(⟨by have:k=_:=hk;omega,by have:k=_:=hk;omega⟩:span W.heap.size c1 k)))
  have LX:Wc.heap.size<U.heap.size:=(Array.getElem?_eq_some_iff.1 qj).1
  have hnW:¬((S W.heap.size∨W.heap.size=l)∨c1≤W.heap.size):=by
   rintro((h|h)|h)
   ·have:=hS _ h;omega
   ·omega
   ·omega
  have hcy:U.cell? ⟨W.heap.size,0,none⟩=some (.func (.yield l) #[] #[]):=(aB LW).1 0
  have hWU:W.heap.size<U.heap.size:=by omega
  have iJ:row? U Wc.heap.size 0 2=some (ah s0 p):=by rw[bQ qj];exact df (by simp[go_sem])
  clear hal hU hbu HP LU LQ rF hbs
  gi_wp2
  refine TI.ah7 40 (fun k=>(S k∨k=l)∨c1≤k) (But.refl _ U) (by kernel_rfl) (by kernel_rfl) (by kernel_rfl) ?_
  repeat (first|(refine TI.ax (by rfl) ?_)|(refine TI.LJ (by rfl) (by rfl) (fun K hK=>?_);go_big_quiet_op;refine hK _ ?_;clear hK K))
  refine TI.Vf (by rfl) (by rfl) (by rfl) (fun K hK=>?_)
  go_wp2_with fail
  refine hK _ _ (dw (But.refl _ U).drew) ?_
  clear hK K
  refine TI.Vf (by rfl) (by rfl) (by rfl) (fun K hK=>?_)
  go_wp2_with fail
  refine(KR _ _ U.drew (vC.later (Below.refl _ _).drew)).mono ?_
  rintro e U2 ⟨s2,rfl,hb2',hd2⟩
  dsimp only
  have hbb:Below U.heap.size U U2:=(Below.refl _ U).drew.trans hb2'
  refine hK _ _ (dw (But.of_below hbb)) ?_
  clear hK K
  have hbs:=hbb.size
  obtain⟨fn,tmps,assign,body,hy,hR⟩:=HY.out c1 k (s0,p) #[.agg (ah s2 p)] W0 U2 hx HJ0.out (aia.trans (But.of_below hbb)) ⟨s2,rfl,hd2.to (fun _ _=>rfl) (fun j hj=>⟨by have h1:U.drew.heap.size≤j:=hj.1;have h2:U.drew.heap.size=U.heap.size:=rfl;omega,hj.2⟩)⟩ (by omega) xm
  refine TI.ah6 (by rfl) (by rfl) (fun K hK=>?_)
  gi_wp2
  refine⟨rfl,RoundIn.mono (F:=Fence.wide.inRound (W.heap.size+2+1)) hR ?_⟩
  rintro e W3 ⟨hb3,h3⟩
  have iW:But (fun k=>(S k∨k=l)∨c1≤k) U W3:=(But.of_below hbb).trans hb3
  have hy3:W3.heap[W.heap.size]?=some (.cells #[.func (.yield l) #[] #[]] 64):=(iW.block _ hWU hnW).trans LW
  have xn:But (Off (fun k=>S k∨k=l) W2) W2 W3:=mf.trans (iW.mono fun k hk=>hk.imp id (fun h=>by omega))
  clear hy hR hd2 hcy iJ qj LW mf vC
  rcases h3 with⟨rfl,hj3⟩|⟨rfl,hx3⟩
  ·dsimp only
   refine hK _ _ (dw iW) ?_
   clear hK K
   repeat (first|(refine TI.ax (by rfl) ?_)|(refine TI.LJ (by rfl) (by rfl) (fun K hK=>?_);go_big_quiet_op;refine hK _ ?_;clear hK K))
   refine TI.bV ?_
   gi_wp2
   exact⟨iW,hj3,hy3,xn,by omega⟩
  ·dsimp only
   refine hK _ _ (dw iW) ?_
   clear hK K
   repeat (first|(refine TI.ax (by rfl) ?_)|(refine TI.LJ (by rfl) (by rfl) (fun K hK=>?_);go_big_quiet_op;refine hK _ ?_;clear hK K))
   refine TI.bV ?_
   gi_wp2
   exact⟨iW,rfl,hx3,by omega⟩
 ·intro c1 Wc ⟨hj,_,_,hc0⟩ hD
  gi_wp2
  refine⟨by simp,.inl ⟨_,_,rfl,run_takeDeferred hD,?_⟩⟩
  refine⟨.tuple #[],by simp[results,Tryz.f126,go_sem],⟨_,rfl⟩,.inl ⟨c1,HJ.out _ _ _ _ hj ((But.putObj _).mono fun k hk=>?_)⟩⟩
  have:k=_:=hk
  exact⟨by omega,by omega⟩
 ·rintro c c1 k Wc ⟨rfl,hx,hc0⟩ hD
  refine(wpIn_wide (n:=0)).1 ?_
  gi_wp2
  refine⟨by simp,.inl ⟨_,_,rfl,run_takeDeferred hD,?_⟩⟩
  refine⟨.tuple #[],by simp[results,Tryz.f126,go_sem],⟨_,rfl⟩,.inr ⟨c1,k,Lm.out _ _ _ _ hx ((But.putObj _).mono fun k hk=>?_)⟩⟩
  have:k=_:=hk
  exact⟨by omega,by omega⟩
end Go.Proofs.YtfieenjdcpjmgaaGreatDoor
