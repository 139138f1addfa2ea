/- A part of the proof. -/
import Derived.WalkKit
import Derived.WalkLawsBesides
import Derived.WalkSpells
import Derived.Deep.QuietTactic
import Derived.BigQuiet
import Derived.Deep.MidRow
import Derived.Lib.Hide
import Derived.KernelRfl
namespace Go.WW
open Go.RowKit
def row?(w:World)(b o n:Nat):Option (Array Value):=
 match w.heap[b]? with
 |some (.cells c _ _)=>if o+n≤c.size then some (c.extract o (o+n))else none
 |_=>none
theorem fG{w w':World}{b:Nat}(h:w'.heap[b]?=w.heap[b]?)(o n:Nat):row? w' b o n=row? w b o n:=by simp[row?,h]
theorem x8{w:World}{b o n:Nat}{cs:Array Value}(h:row? w b o n=some cs):cs.size=n:=by
 unfold row? at h
 split at h
 ·split at h
  ·cases h;simp;omega
  ·cases h
 ·cases h
theorem ji{w:World}{b o n:Nat}{cs:Array Value}(h:row? w b o n=some cs)(j:Nat)(hj:j<n):w.cell? ⟨b,o+j,none⟩=cs[j]?:=by
 unfold row? at h
 split at h
 ·rename_i c t f hb
  split at h
  ·cases h
   rw[cell_of_row w b (o+j) c t f hb]
   simp[Array.getElem?_extract]
   intro h1;omega
  ·cases h
 ·cases h
theorem fA{w:World}{b o n:Nat}{cs:Array Value}(h:row? w b o n=some cs):b<w.heap.size:=by
 unfold row? at h
 split at h
 ·rename_i hb;exact(Array.getElem?_eq_some_iff.1 hb).1
 ·cases h
theorem Py{w:World}{b o n:Nat}{cs:Array Value}(h:row? w b o n=some cs):w.rangeAt b o cs.toList:=by
 intro j v hv
 have hs:=x8 h
 have hj:j<n:=by
  have:=(List.getElem?_eq_some_iff.1 hv).1;simp at this;omega
 rw[ji h j hj];simpa using hv
def kP(T:TypeId)(v:Value):Sem Next:=do pure (.value (←Instr.loadAt T v))
def sK(P:Program)(T:TypeId)(w:World)(b o:Nat):Option (Array Value)→Result Next
 |some cs=>.ok (.value (.agg cs)) w
 |none=>(kP T (.pointer (some ⟨b,o,none⟩))).run P w
theorem Pz(P:Program)(T:TypeId)(w:World)(b o:Nat)(cs:Array Value):sK P T w b o (some cs)=.ok (.value (.agg cs)) w:=rfl
theorem wO{P:Program}{T:TypeId}{d:TypeDesc}{n:Nat}(hu:P.underlying T=some d)(hd:d.isRow=true)(hi:(P.info? T).map (·.size)=some n)(w:World)(b o:Nat) :
  (kP T (.pointer (some ⟨b,o,none⟩))).run P w=sK P T w b o (row? w b o n):=by
 cases h:row? w b o n with
 |none=>rfl
 |some cs=>
  rw[Pz]
  have hs:=x8 h
  have:=run_loadAt_mid (P:=P) w b o T cs.toList d (Py h) hu hd (by rw[hi];simp[hs])
  simp only[kP,Sem.run_bind,this,Result.andThen_ok,Sem.run_pure]
theorem YM{w:World}{cs:Array Value}{t:TypeId}{k n:Nat}(hk:k=w.heap.size)(hn:cs.size=n):row? (w.alloc (.cells cs t)) k 0 n=some cs:=by
 subst hk;subst hn
 have:(w.alloc (.cells cs t)).heap[w.heap.size]?=some (.cells cs t):=by show(w.heap.push _)[w.heap.size]?=_;simp
 unfold row?;rw[this];simp
def gy(cs:Array Value)(o n:Nat):Option (Array Value):=if o+n≤cs.size then some (cs.extract o (o+n))else none
theorem gI{cs:Array Value}{n:Nat}(hn:cs.size=n):gy cs 0 n=some cs:=by subst hn;simp[gy]
theorem EM{w:World}{cs:Array Value}{t:TypeId}{k o n:Nat}(hk:k=w.heap.size):row? (w.alloc (.cells cs t)) k o n=gy cs o n:=by
 subst hk
 have:(w.alloc (.cells cs t)).heap[w.heap.size]?=some (.cells cs t):=by show(w.heap.push _)[w.heap.size]?=_;simp
 unfold row? gy;rw[this]
theorem PD{w:World}{ob:Obj}{k o n:Nat}(hk:k<w.heap.size):row? (w.alloc ob) k o n=row? w k o n:=
 fG (Below.heap_alloc w ob k hk) o n
theorem YN(w:World)(k o n:Nat):row? w.drew k o n=row? w k o n:=rfl
theorem YO{w:World}{p:Addr}{v:Value}{k o n:Nat}(h:k≠p.block):row? (w.setCell p v) k o n=row? w k o n:=
 fG (Below.heap_setCell w p v k h) o n
def kQ(T:TypeId)(p v:Value):Sem Next:=do Instr.storeAt T p v;pure .skip
def aX(w:World)(b o n:Nat):Bool:=
 match w.heap[b]? with
 |some (.cells c _ f)=>decide (o+n≤c.size)&&decide (f=(0,0))
 |_=>false
def putRow(w:World)(b o:Nat)(cs:Array Value):World:=w.setCells b o cs.toList
def sO(P:Program)(T:TypeId)(w:World)(b o:Nat)(cs:Array Value):Bool→Result Next
 |true=>.ok .skip (putRow w b o cs)
 |false=>(kQ T (.pointer (some ⟨b,o,none⟩)) (.agg cs)).run P w
theorem PE(P:Program)(T:TypeId)(w:World)(b o:Nat)(cs:Array Value):sO P T w b o cs true=.ok .skip (putRow w b o cs):=rfl
theorem PG{w:World}{b o n:Nat}(h:aX w b o n=true):w.there b o n:=by
 unfold aX at h
 split at h
 ·rename_i c t f hb
  simp only[Bool.and_eq_true,decide_eq_true_eq]at h
  obtain⟨h1,rfl⟩:=h
  intro j hj
  exact⟨by rw[cell_of_row w b (o+j) c t _ hb];simp;omega,frozen_of_row w b (o+j) c t hb⟩
 ·cases h
def dL(cs:Array Value):Bool:=cs.all (·.oneCell')
theorem wP{P:Program}{T:TypeId}{n:Nat}(hi:(P.info? T).map (·.size)=some n)(w:World)(b o:Nat)(cs:Array Value)(hn:cs.size=n)(h1:dL cs=true) :
  (kQ T (.pointer (some ⟨b,o,none⟩)) (.agg cs)).run P w=sO P T w b o cs (aX w b o n):=by
 cases h:aX w b o n with
 |false=>rfl
 |true=>
  rw[PE]
  have:=run_storeAt_mid (P:=P) w b o T cs (by rw[hn];exact PG h) (by rw[hi,hn]) h1
  simp only[kQ,Sem.run_bind,this,Result.andThen_ok,Sem.run_pure]
  rfl
theorem Jn{w:World}{cs:Array Value}{t:TypeId}{k o n:Nat}(hk:k=w.heap.size)(hn:o+n≤cs.size):aX (w.alloc (.cells cs t)) k o n=true:=by
 subst hk
 have:(w.alloc (.cells cs t)).heap[w.heap.size]?=some (.cells cs t):=by show(w.heap.push _)[w.heap.size]?=_;simp
 unfold aX;rw[this];simp[hn]
theorem x9{w:World}{ob:Obj}{k o n:Nat}(hk:k<w.heap.size):aX (w.alloc ob) k o n=aX w k o n:=by
 unfold aX;rw[Below.heap_alloc w ob k hk]
theorem EN{w w':World}{b:Nat}(h:w'.heap[b]?=w.heap[b]?)(o n:Nat):aX w' b o n=aX w b o n:=by unfold aX;rw[h]
theorem PH(w:World)(t:TypeId):∀(l:List Value) (o:Nat) (c:Array Value),(w.alloc (.cells c t)).setCells w.heap.size o l=w.alloc (.cells ((l.zipIdx o).foldl (fun c x=>c.setIfInBounds x.2 x.1) c) t)
 | [],_,_=>rfl
 |v::l,o,c=>by
  rw[World.setCells,World.setCell_alloc_at _ _ _ _ _ rfl,PH w t l (o+1)]
  rfl
theorem PI(pre:List Value):∀(l m:List Value),l.length=m.length→
  ((m.zipIdx pre.length).foldl (fun(c:Array Value) x=>c.setIfInBounds x.2 x.1) (pre++l).toArray)=(pre++m).toArray
 | [],[],_=>by simp
 |x::l,y::m,h=>by
  have ih:=PI (pre++[y]) l m (by simpa using h)
  simp only[List.zipIdx_cons,List.foldl_cons]
  have e:(pre++x::l).toArray.setIfInBounds pre.length y=((pre++[y])++l).toArray:=by simp
  rw[e]
  simpa using ih
theorem YP{w:World}{c cs:Array Value}{t:TypeId}{k:Nat}(hk:k=w.heap.size)(hn:c.size=cs.size):putRow (w.alloc (.cells c t)) k 0 cs=w.alloc (.cells cs t):=by
 subst hk
 unfold putRow
 rw[PH]
 have:=PI [] c.toList cs.toList (by simpa using hn)
 simp only[List.length_nil,List.nil_append]at this
 have e:c.toList.toArray=c:=by simp
 rw[e]at this
 rw[this]
attribute [go_sem] PE Jn x9 YP
structure Later(W:World) where
 w:World
 b:Below W.heap.size W w
instance {W:World}:Nonempty (Later W):=⟨⟨W,Below.refl _ _⟩⟩
section
variable {W:World} (x:Later W) (b o:Nat) (h:b<W.heap.size)
include h
theorem Later.cell:x.w.cell? ⟨b,o,none⟩=W.cell? ⟨b,o,none⟩:=x.b.cell (p:=⟨b,o,none⟩) h
theorem Later.frozen:x.w.frozen? ⟨b,o,none⟩=W.frozen? ⟨b,o,none⟩:=x.b.frozen (p:=⟨b,o,none⟩) h
theorem Later.row(n:Nat):row? x.w b o n=row? W b o n:=fG (x.b.block b h) o n
end
theorem dN{P:Program}{id:Nat}{Q:Exit→Act→World→Prop}{a:Act}{W w:World}{l:List Oper}(hW:Below W.heap.size W w)(hm:P.follows .mixedOrders=true)(hB:Region.lexB .any l.toArray=true)
  (h:wpQuiet P l.toArray (fun w'=>∃x:Later W,w'=x.w) (fun a'=>∀w',Below W.heap.size W w'→Q .normal a' w') l a):(Code.region id l.toArray true).wp P Q a w:=by
 refine wp_region_quiet (C:=fun w'=>∃x:Later W,w'=x.w) hm hB ⟨⟨w.drew,hW.drew⟩,rfl⟩ ?_
 have:(fun a'=>∀w',(∃x:Later W,w'=x.w)→Q .normal a' w')=(fun a'=>∀w',Below W.heap.size W w'→Q .normal a' w'):=by
  funext a';apply propext
  exact⟨fun h w' hw'=>h w' ⟨⟨w',hw'⟩,rfl⟩,fun h w' ⟨x,hx⟩=>hx▸h _ x.b⟩
 rw[this]
 simpa using h
theorem Calls.uS{P:Program}{f:FuncId}{args:Array Value}{W:World}{x:Later W}{v:Value}
  (h:Calls P f args x.w fun e w'=>e=.returned v∧x.w=w'):Calls P f args x.w fun e w''=>e=.returned v∧∃y:Later W,w''=y.w:=
 h.mono fun _ _ ⟨he,hb⟩=>⟨he,x,hb.symm⟩
theorem Calls.iq{P:Program}{f:FuncId}{args:Array Value}{W:World}{x:Later W}{v:Value}
  (h:Calls P f args x.w fun e w'=>e=.returned v∧Below x.w.heap.size x.w w'):Calls P f args x.w fun e w''=>e=.returned v∧∃y:Later W,w''=y.w:=
 h.mono fun _ w' ⟨he,hb⟩=>⟨he,⟨w',x.b.trans (hb.mono x.b.size)⟩,rfl⟩
theorem aQ{W w1:World}(hb:Below W.heap.size W w1):(∀b o,b<W.heap.size→w1.cell? ⟨b,o,none⟩=W.cell? ⟨b,o,none⟩)∧(∀b o,b<W.heap.size→w1.frozen? ⟨b,o,none⟩=W.frozen? ⟨b,o,none⟩)∧
  (∀b o n,b<W.heap.size→row? w1 b o n=row? W b o n):=
 ⟨fun b o h=>hb.cell (p:=⟨b,o,none⟩) h,fun b o h=>hb.frozen (p:=⟨b,o,none⟩) h,fun b o n h=>fG (hb.block b h) o n⟩
attribute [go_sem] Pz gI EM PD YN YO Later.cell Later.frozen Later.row
end Go.WW
namespace Go.WW
open Go.RowKit
section
variable {P:Program} {ops:Array Oper} {S:World→Prop} {st:Oper→Bool} {Q:Act→World→Prop}
abbrev never:Exit→Act→World→Prop:=fun _ _ _=>False
def aG(P:Program)(ops:Array Oper)(st:Oper→Bool)(S:World→Prop)(Q:Act→World→Prop):List Oper→Act→World→Prop
 | [],a,w=>Q a w
 |o::rest,a,w=>
  if Region.wanted o (yielded ops a.tmps)then
   if st o then ∃v,(∀w',S w'→(execOp a.eval o).run P w'=.ok (.value v) w')∧aG P ops st S Q rest (a.put o.dst v) w
   else o.wp P a w (fun a' w'=>S w'∧aG P ops st S Q rest a' w') never
  else aG P ops st S Q rest (a.put o.dst undef) w
theorem wQ{o:Oper}{a:Act}{w:World}{K:Act→World→Prop}{Q':Exit→Act→World→Prop}(h:o.wp P a w K never):o.wp P a w K Q':=by
 unfold Oper.wp at *
 generalize (execOp a.eval o).run P w=r at *
 cases r with
 |ok n w'=>
  cases n<;>simp only[Oper.upon]at h ⊢<;>
   first
    |exact h
    |exact Calls.mono h (fun e w'' he=>by cases e<;>first|exact he|exact he.elim|(obtain⟨_,_,he⟩:=he;exact he.elim))
 |halt x w'=>cases x<;>simp only[Oper.upon,never]at h ⊢
theorem sQ{o:Oper}{a:Act}{w:World}{K:Act→World→Prop}(h:o.wp P a w K never) :
  o.wp P a w (fun a' w'=>(∃u ds,a'=({a with defers:=ds}:Act).put o.dst u)∧K a' w') never:=by
 unfold Oper.wp at *
 generalize (execOp a.eval o).run P w=r at *
 cases r with
 |ok n w'=>
  cases n<;>simp only[Oper.upon]at h ⊢<;>
   first
    |exact⟨⟨_,a.defers,rfl⟩,h⟩
    |exact⟨⟨_,_,rfl⟩,h⟩
    |exact Calls.mono h (fun e w'' he=>by cases e<;>first|exact⟨⟨_,a.defers,rfl⟩,he⟩|exact he)
    |exact Rows.mono h (fun _ _ he=>⟨⟨_,a.defers,rfl⟩,he⟩)
    |exact h
 |halt x w'=>cases x<;>simp only[Oper.upon,never]at h ⊢
theorem EO{o:Oper}{a:Act}{w:World}{K:Act→World→Prop}(h:o.wp P a w K never):∃a' w',K a' w':=by
 unfold Oper.wp at *
 generalize (execOp a.eval o).run P w=r at *
 cases r with
 |ok n w'=>
  cases n<;>simp only[Oper.upon]at h<;>
   first
    |exact⟨_,_,h⟩
    |(obtain⟨e,w'',fr,hR,_⟩:=h []
      cases e with
      |returned v=>exact⟨_,_,hR⟩
      |panicked c=>exact hR.elim
      |outgrown=>obtain⟨_,_,hR⟩:=hR;exact hR.elim)
    |(obtain⟨v,w'',hR,_⟩:=h default [];exact⟨_,_,hR⟩)
    |exact h.elim
 |halt x w'=>cases x<;>simp only[Oper.upon,never]at h
theorem nZ{o:Oper}{a:Act}{w:World}{K:Act→World→Prop}{dst:Option Tmp}{v:Value}(hs:∀cs b,o.op≠.select cs b)
  (h1:∀d,dst=some d→d∉o.looksAt ops) (h2:∀d,dst=some d→o.dst≠some d) :
  o.wp P (a.put dst v) w K never↔o.wp P a w (fun a' w'=>K (a'.put dst v) w') never:=by
 unfold Oper.wp
 rw[execOp_put o hs a dst v h1]
 generalize (execOp a.eval o).run P w=r
 have hc:∀(b:Act) u,(b.put dst v).put o.dst u=(b.put o.dst u).put dst v:=fun b u=>Act.put_comm b v u h2
 have hd:∀d,({a.put dst v with defers:=d::(a.put dst v).defers}:Act)=({a with defers:=d::a.defers}:Act).put dst v:=fun d=>Act.put_defers a dst v d
 cases r with
 |ok n w'=>
  cases n<;>simp only[Oper.upon,hc,hd]
 |halt x w'=>cases x<;>simp only[Oper.upon]
theorem bF(o:Oper)(rest:List Oper)(a:Act)(w:World):aG P ops st S Q (o::rest) a w =
  (if Region.wanted o (yielded ops a.tmps)then
   if st o then ∃v,(∀w',S w'→(execOp a.eval o).run P w'=.ok (.value v) w')∧aG P ops st S Q rest (a.put o.dst v) w
   else o.wp P a w (fun a' w'=>S w'∧aG P ops st S Q rest a' w') never
  else aG P ops st S Q rest (a.put o.dst undef) w):=rfl
theorem PK{l:List Oper}{Q':Act→World→Prop}(h:∀a w,Q a w→Q' a w):∀{a w},aG P ops st S Q l a w→aG P ops st S Q' l a w:=by
 induction l with
 |nil=>exact fun hh=>h _ _ hh
 |cons o l ih=>
  intro a w hh
  rw[bF]at *
  split
  ·rename_i hw
   simp only[hw,if_true]at hh
   split
   ·rename_i hs
    simp only[hs,if_true]at hh
    obtain⟨v,h1,h2⟩:=hh
    exact⟨v,h1,ih h2⟩
   ·rename_i hs
    simp only[hs]at hh
    exact Oper.wp_mono (fun a' w' ⟨x,y⟩=>⟨x,ih y⟩) hh
  ·rename_i hw
   simp only[hw]at hh
   exact ih hh
theorem Ai{o:Oper}{M M':List Oper}{a:Act}{w:World}(hS:S w)(h:∀a' w',S w'→aG P ops st S Q M a' w'→aG P ops st S Q M' a' w')
  (hh:aG P ops st S Q (o::M) a w):aG P ops st S Q (o::M') a w:=by
 rw[bF]at *
 split
 ·rename_i hw
  simp only[hw,if_true]at hh
  split
  ·rename_i hs
   simp only[hs,if_true]at hh
   obtain⟨v,h1,h2⟩:=hh
   exact⟨v,h1,h _ _ hS h2⟩
  ·rename_i hs
   simp only[hs]at hh
   exact Oper.wp_mono (fun a' w' ⟨x,y⟩=>⟨x,h _ _ x y⟩) hh
 ·rename_i hw
  simp only[hw]at hh
  exact h _ _ hS hh
theorem Aj{x o:Oper}{L:List Oper}{a:Act}{w:World}(hx:∀cs b,x.op≠.select cs b)(ho:∀cs b,o.op≠.select cs b)
  (hap:x.apart ops o=true) (hst:st x=true∨st o=true) (h:aG P ops st S Q (x::o::L) a w):aG P ops st S Q (o::x::L) a w:=by
 obtain⟨h1,h2,h3⟩:=Oper.apart_spec hap
 have h2':∀d,o.dst=some d→x.dst≠some d:=fun d hd hxd=>h2 d hxd hd
 have wo:∀(b:Act) v,Region.wanted o (yielded ops (b.put x.dst v).tmps)=Region.wanted o (yielded ops b.tmps):=fun b v=>wanted_put o b x.dst v h1
 have wx:∀(b:Act) v,Region.wanted x (yielded ops (b.put o.dst v).tmps)=Region.wanted x (yielded ops b.tmps):=fun b v=>wanted_put x b o.dst v h3
 have eo:∀(b:Act) v,execOp (b.put x.dst v).eval o=execOp b.eval o:=fun b v=>execOp_put o ho b x.dst v h1
 have ex:∀(b:Act) v,execOp (b.put o.dst v).eval x=execOp b.eval x:=fun b v=>execOp_put x hx b o.dst v h3
 have hc:∀(b:Act) v u,(b.put x.dst v).put o.dst u=(b.put o.dst u).put x.dst v:=fun b v u=>Act.put_comm b v u h2
 rw[bF]at h ⊢
 by_cases hwx:Region.wanted x (yielded ops a.tmps)=true
 ·rw[if_pos hwx]at h
  by_cases hsx:st x=true
  ·rw[if_pos hsx]at h
   obtain⟨v,hv,h⟩:=h
   rw[bF,wo,eo]at h
   by_cases hwo:Region.wanted o (yielded ops a.tmps)=true
   ·rw[if_pos hwo]at h ⊢
    by_cases hso:st o=true
    ·rw[if_pos hso]at h ⊢
     obtain⟨u,hu,h⟩:=h
     refine⟨u,hu,?_⟩
     rw[bF,wx,if_pos hwx,if_pos hsx,ex]
     exact⟨v,hv,by rw[←hc];exact h⟩
    ·rw[if_neg hso]at h ⊢
     have h':=sQ ((nZ ho h1 h2).1 h)
     refine Oper.wp_mono ?_ h'
     rintro a' w' ⟨⟨u,ds,rfl⟩,hS',h⟩
     refine⟨hS',?_⟩
     rw[bF,wx,show Region.wanted x (yielded ops ({a with defers:=ds}:Act).tmps)=true from hwx,if_pos rfl,if_pos hsx,ex]
     exact⟨v,hv,h⟩
   ·rw[if_neg hwo]at h ⊢
    rw[bF,wx,if_pos hwx,if_pos hsx,ex]
    exact⟨v,hv,by rw[←hc];exact h⟩
  ·have hso:st o=true:=hst.resolve_left hsx
   rw[if_neg hsx]at h
   have h':=sQ h
   by_cases hwo:Region.wanted o (yielded ops a.tmps)=true
   ·rw[if_pos hwo,if_pos hso]
    have key:∀a' w',((∃u ds,a'=({a with defers:=ds}:Act).put x.dst u)∧S w'∧aG P ops st S Q (o::L) a' w')→
      ∃v,(∀w',S w'→(execOp a.eval o).run P w'=.ok (.value v) w')∧S w'∧aG P ops st S Q L (a'.put o.dst v) w':=by
     rintro a' w' ⟨⟨u,ds,rfl⟩,hS',hh⟩
     rw[bF,wo,show Region.wanted o (yielded ops ({a with defers:=ds}:Act).tmps)=true from hwo,if_pos rfl,if_pos hso,eo]at hh
     obtain⟨v,hv,hh⟩:=hh
     exact⟨v,hv,hS',hh⟩
    obtain⟨a1,w1,h1'⟩:=EO h'
    obtain⟨v,hv,_⟩:=key _ _ h1'
    refine⟨v,hv,?_⟩
    rw[bF,wx,if_pos hwx,if_neg hsx,nZ hx h3 h2']
    refine Oper.wp_mono ?_ h'
    intro a' w' hh
    obtain⟨v',hv',hS',hh⟩:=key _ _ hh
    have e:v'=v:=by
     have:=(hv' _ hS').symm.trans (hv _ hS')
     simpa using this
    subst e
    exact⟨hS',hh⟩
   ·rw[if_neg hwo,bF,wx,if_pos hwx,if_neg hsx,nZ hx h3 h2']
    refine Oper.wp_mono ?_ h'
    rintro a' w' ⟨⟨u,ds,rfl⟩,hS',hh⟩
    rw[bF,wo,show Region.wanted o (yielded ops ({a with defers:=ds}:Act).tmps)=false from by simpa using hwo,if_neg (by simp)]at hh
    exact⟨hS',hh⟩
 ·rw[if_neg hwx]at h
  rw[bF,wo,eo]at h
  by_cases hwo:Region.wanted o (yielded ops a.tmps)=true
  ·rw[if_pos hwo]at h ⊢
   by_cases hso:st o=true
   ·rw[if_pos hso]at h ⊢
    obtain⟨u,hu,h⟩:=h
    refine⟨u,hu,?_⟩
    rw[bF,wx,if_neg hwx,←hc]
    exact h
   ·rw[if_neg hso]at h ⊢
    have h':=sQ ((nZ ho h1 h2).1 h)
    refine Oper.wp_mono ?_ h'
    rintro a' w' ⟨⟨u,ds,rfl⟩,hS',h⟩
    refine⟨hS',?_⟩
    rw[bF,wx,show Region.wanted x (yielded ops ({a with defers:=ds}:Act).tmps)=false from by simpa using hwx,if_neg (by simp)]
    exact h
  ·rw[if_neg hwo]at h ⊢
   rw[bF,wx,if_neg hwx,←hc]
   exact h
theorem jE{o:Oper}{L2:List Oper}(ho:∀cs b,o.op≠.select cs b):∀(L1:List Oper),(∀x∈L1,(∀cs b,x.op≠.select cs b)∧x.apart ops o=true∧(st x=true∨st o=true))→
  ∀(a:Act) (w:World),S w→aG P ops st S Q (L1++o::L2) a w→aG P ops st S Q (o::(L1++L2)) a w
 | [],_,_,_,_,h=>h
 |x::L1,hall,a,w,hS,h=>by
  have hx:=hall x (by simp)
  refine Aj hx.1 ho hx.2.1 hx.2.2 ?_
  exact Ai hS (fun a' w' hS' hh=>jE ho L1 (fun y hy=>hall y (by simp[hy])) a' w' hS' hh) h
def lK(st:Oper→Bool)(ops:Array Oper):Array (List Nat):=
 ops.foldl (fun acc o=>acc.push (((o.after.toList.filter (Region.binds .any ·)).flatMap fun e=>(if((ops[e.on]?).map st).getD true then []else [e.on])++acc.getD e.on []).eraseDups)) #[]
def ny(st:Oper→Bool)(ops:Array Oper):Bool:=
 let m:=lK st ops
 Region.noSelect ops&&(List.range ops.size).all fun j=>match ops[j]? with
  |none=>true
  |some oj=>
   oj.after.toList.all (fun e=>!Region.binds .any e || decide (e.on<j))&&
   (m.getD j []).all (fun i=>oj.after.toList.any fun e=>Region.binds .any e&&(e.on == i || (m.getD e.on []).contains i))&&
   (List.range j).all fun i=>match ops[i]? with
    |none=>true
    |some oi=>oj.after.toList.any (fun e=>Region.binds .any e&&e.on == i) || (oi.apart ops oj&&(st oi || st oj || (m.getD j []).contains i))
structure uT(st:Oper→Bool)(ops:Array Oper)(m:Array (List Nat)):Prop where
 jy:Region.noSelect ops=true
 back:∀j oj,ops[j]?=some oj→∀e∈oj.after,Region.binds .any e=true→e.on<j
 pred:∀j oj,ops[j]?=some oj→∀i∈m.getD j [],∃e∈oj.after,Region.binds .any e=true∧(e.on=i∨i∈m.getD e.on [])
 pair:∀j oj,ops[j]?=some oj→∀i,i<j→∀oi,ops[i]?=some oi→(∃e∈oj.after,Region.binds .any e=true∧e.on=i)∨(oi.apart ops oj=true∧(st oi=true∨st oj=true∨i∈m.getD j []))
theorem BP(h:ny st ops=true):uT st ops (lK st ops):=by
 unfold ny at h
 simp only[Bool.and_eq_true,List.all_eq_true,List.mem_range]at h
 obtain⟨hs,h⟩:=h
 have lt:∀{j:Nat} {oj:Oper},ops[j]?=some oj→j<ops.size:=fun hj=>(Array.getElem?_eq_some_iff.1 hj).1
 refine⟨hs,fun j oj hj=>?_,fun j oj hj=>?_,fun j oj hj=>?_⟩
 all_goals
  have hh:=h j (lt hj)
  simp only[hj,Bool.and_eq_true,List.all_eq_true,List.mem_range]at hh
  obtain⟨⟨h1,h2⟩,h3⟩:=hh
 ·intro e he hb
  have:=h1 e (by simpa using he)
  simpa[hb]using this
 ·intro i hi
  have:=h2 i hi
  simp only[List.any_eq_true,Bool.and_eq_true,Bool.or_eq_true,beq_iff_eq,List.contains_iff_mem]at this
  obtain⟨e,he,hb,hor⟩:=this
  exact⟨e,by simpa using he,hb,hor⟩
 ·intro i hi oi ho
  have:=h3 i hi
  simp only[ho,Bool.or_eq_true,List.any_eq_true,Bool.and_eq_true,beq_iff_eq,List.contains_iff_mem]at this
  rcases this with⟨e,he,hb,hor⟩|⟨ha,hor⟩
  ·exact .inl ⟨e,by simpa using he,hb,hor⟩
  ·exact .inr ⟨ha,by rcases hor with(h|h)|h;exact .inl h;exact .inr (.inl h);exact .inr (.inr h)⟩
theorem EP{m:Array (List Nat)}(hok:uT st ops m){listed:Array Bool}
  (hdown:∀k o,ops[k]?=some o→listed.getD k false=true→∀e∈o.after,Region.binds .any e=true→listed.getD e.on false=true) :
  ∀(j:Nat) (oj:Oper),ops[j]?=some oj→(∀e∈oj.after,Region.binds .any e=true→listed.getD e.on false=true)→∀i∈m.getD j [],listed.getD i false=true:=by
 intro j
 induction j using Nat.strongRecOn with
 |_ j ih=>
  intro oj hj hall i hi
  obtain⟨e,he,hb,hor⟩:=hok.pred j oj hj i hi
  rcases hor with rfl|hor
  ·exact hall e he hb
  ·have hlt:=hok.back j oj hj e he hb
   have hjs:j<ops.size:=(Array.getElem?_eq_some_iff.1 hj).1
   have hoe:ops[e.on]?=some (ops[e.on]'(by omega)):=by simp
   exact ih e.on hlt _ hoe (hdown _ _ hoe (hall e he hb)) i hor
theorem Ak{listed:Array Bool}{i:Nat}(h:listed.getD i false=true):listed.getD i true=true:=by
 rcases Nat.lt_or_ge i listed.size with h'|h'
 ·simp[h']at h ⊢;exact h
 ·simp[Array.getElem?_eq_none h']at h
theorem yg{m:Array (List Nat)}(hok:uT st ops m){Q':Exit→Act→World→Prop}(hQ:∀a w,Q a w→Q' .normal a w) :
  ∀(n:Nat) (L:List Nat) (listed:Array Bool) (a:Act) (w:World),L.length=n→L.Pairwise (· < ·)→listed.size=ops.size→(∀j,j∈L↔j<ops.size∧listed.getD j true=false)→
   (∀k o,ops[k]?=some o→listed.getD k false=true→∀e∈o.after,Region.binds .any e=true→listed.getD e.on false=true)→
   S w→aG P ops st S Q (L.filterMap (ops[·]?)) a w→wpAny P .any ops Q' n listed a w:=by
 intro n
 induction n with
 |zero=>
  intro L listed a w hn _ hsz hL _ _ h
  have:L=[]:=List.eq_nil_of_length_eq_zero hn
  subst this
  refine⟨?_,hQ _ _ h⟩
  cases hr:Region.ready .any ops listed with
  |nil=>rfl
  |cons i r=>
   have hi:i∈Region.ready .any ops listed:=by rw[hr];simp
   obtain⟨h0,o,ho,_⟩:=mem_ready.1 hi
   have:=(hL i).2 ⟨(Array.getElem?_eq_some_iff.1 ho).1,h0⟩
   cases this
 |succ n ih=>
  intro L listed a w hn hsort hsz hL hdown hS h
  refine⟨fun hr=>?_,fun i hi=>?_⟩
  ·exfalso
   cases L with
   |nil=>simp at hn
   |cons j L=>
    obtain⟨hj,hjl⟩:=(hL j).1 (by simp)
    have hoj:ops[j]?=some ops[j]:=by simp[hj]
    have:j∈Region.ready .any ops listed:=by
     refine mem_ready.2 ⟨hjl,_,hoj,fun e he hb=>?_⟩
     have hlt:=hok.back j _ hoj e he hb
     have hnot:e.on∉j::L:=by
      intro hmem
      rcases List.mem_cons.1 hmem with h1|h1
      ·omega
      ·have:=(List.pairwise_cons.1 hsort).1 _ h1;omega
     have h2:listed.getD e.on true≠false:=fun hf=>hnot ((hL e.on).2 ⟨by omega,hf⟩)
     have hes:e.on<listed.size:=by omega
     simp[hes]at h2 ⊢;exact h2
    rw[hr]at this;cases this
  ·obtain⟨h0,o,ho,hall⟩:=mem_ready.1 hi
   have his:i<ops.size:=(Array.getElem?_eq_some_iff.1 ho).1
   have hiL:i∈L:=(hL i).2 ⟨his,h0⟩
   obtain⟨L1,L2,rfl⟩:=List.append_of_mem hiL
   have dW:=List.pairwise_append.1 hsort
   have hlt1:∀x∈L1,x<i:=fun x hx=>dW.2.2 x hx i (by simp)
   have hgt2:∀x∈L2,i<x:=fun x hx=>(List.pairwise_cons.1 dW.2.1).1 x hx
   rw[List.filterMap_append,List.filterMap_cons_some ho]at h
   have dh:=jE (P:=P) (ops:=ops) (S:=S) (st:=st) (Q:=Q) (Region.noSelect_spec hok.jy i o · · ho) (L1.filterMap (ops[·]?)) (fun x hx=>by
    obtain⟨k,hk,hox⟩:=List.mem_filterMap.1 hx
    have hkl:=((hL k).1 (by simp[hk])).2
    have hnl:¬listed.getD k false=true:=fun hf=>by rw[Ak hf]at hkl;cases hkl
    refine⟨(Region.noSelect_spec hok.jy k x · · hox),?_⟩
    rcases hok.pair i o ho k (hlt1 k hk) x hox with⟨e,he,hb,rfl⟩|⟨hap,hor⟩
    ·exact absurd (hall e he hb) hnl
    ·refine⟨hap,?_⟩
     rcases hor with h1|h1|h1
     ·exact .inl h1
     ·exact .inr h1
     ·exact absurd (EP hok hdown i o ho hall k h1) hnl) a w hS h
   have hrest:∀a' w',S w'→aG P ops st S Q (L1.filterMap (ops[·]?)++L2.filterMap (ops[·]?)) a' w'→wpAny P .any ops Q' n (listed.setIfInBounds i true) a' w':=by
    intro a' w' hS' hh
    rw[←List.filterMap_append]at hh
    refine ih (L1++L2) (listed.setIfInBounds i true) a' w' ?_ ?_ (by simpa using hsz) ?_ ?_ hS' hh
    ·simp at hn ⊢;omega
    ·exact List.pairwise_append.2 ⟨dW.1,(List.pairwise_cons.1 dW.2.1).2,fun x hx y hy=>dW.2.2 x hx y (by simp[hy])⟩
    ·intro j
     by_cases hji:j=i
     ·subst hji
      constructor
      ·intro hm
       exfalso
       rcases List.mem_append.1 hm with h1|h1
       ·have:=hlt1 _ h1;omega
       ·have:=hgt2 _ h1;omega
      ·rintro⟨_,hf⟩
       have:j<listed.size:=by omega
       simp[this]at hf
     ·rw[getD_set_ne true (Ne.symm hji),←hL j]
      simp[hji]
    ·intro k ok hk hkl e he hb
     by_cases hki:k=i
     ·subst hki
      rw[ho]at hk;cases hk
      exact getD_set_true (hall e he hb)
     ·rw[getD_set_ne false (Ne.symm hki)]at hkl
      exact getD_set_true (hdown k ok hk hkl e he hb)
   unfold wpOp
   simp only[ho]
   rw[bF]at dh
   split
   ·rename_i hw
    rw[if_pos hw]at dh
    refine .inl ?_
    by_cases hs:st o=true
    ·rw[if_pos hs]at dh
     obtain⟨v,hv,hh⟩:=dh
     unfold Oper.wp
     rw[hv w hS]
     exact hrest _ _ hS hh
    ·rw[if_neg hs]at dh
     exact wQ (Oper.wp_mono (fun a' w' hh=>hrest a' w' hh.1 hh.2) dh)
   ·rename_i hw
    rw[if_neg hw]at dh
    exact hrest _ _ hS dh
theorem BQ{id:Nat}{Q':Exit→Act→World→Prop}{a:Act}{w:World}{l:List Oper}(S:World→Prop)(st:Oper→Bool)(hm:P.follows .mixedOrders=true)(hB:ny st l.toArray=true)
  (hS:S w.drew) (h:aG P l.toArray st S (fun a' w'=>Q' .normal a' w') l a w.drew):(Code.region id l.toArray true).wp P Q' a w:=by
 refine wp_region_any hm ?_
 have hfm:(List.range l.toArray.size).filterMap (l.toArray[·]?)=l:=by
  apply List.ext_getElem?
  intro i
  have:∀n,(List.range n).filterMap (fun i=>l.toArray[i]?)=l.take n:=by
   intro n
   induction n with
   |zero=>simp
   |succ n ih=>
    rw[List.range_succ,List.filterMap_append,ih]
    by_cases hn:n<l.length
    ·rw[List.take_succ_eq_append_getElem hn];simp[hn]
    ·simp[hn,List.take_of_length_le (show l.length≤n by omega),List.take_of_length_le (show l.length≤n+1 by omega)]
  rw[this];simp
 have:=yg (P:=P) (S:=S) (Q:=fun a' w'=>Q' .normal a' w') (BP hB) (Q':=Q') (fun _ _ h=>h) l.toArray.size (List.range l.toArray.size) (Array.replicate l.toArray.size false) a w.drew
  (by simp) List.pairwise_lt_range (by simp) (by intro j;simp;intro h;simp[h]) (by intro k o hk hkl;exfalso;rw[Array.getD_eq_getD_getElem?,Array.getElem?_replicate]at hkl;split at hkl<;>simp at hkl) hS (by rw[hfm];exact h)
 exact this
def looks(o:Oper):Bool:=
 match o.op with
 | .move _ | .assign _ | .pick .. | .load .. | .binOp .. | .unOp .. | .makeInterface .. | .makeFunc .. | .slice .. | .fieldAddr .. | .field .. | .indexAddr .. | .index .. | .lookup .. | .extract .. | .build .. | .convert ..=>true
 | .call {callee:=.builtin b,..}=>match b with | .len | .cap | .min | .max=>true|_=>false
 |_=>false
theorem PM(s:Sem Value)(w:World):(∃v w',((do pure (.value (←s)):Sem Next)).run P w=.ok (.value v) w')∨∃h w',((do pure (.value (←s)):Sem Next)).run P w=.halt h w':=by
 rw[Sem.run_bind]
 cases s.run P w with
 |ok v w'=>exact .inl ⟨v,w',by simp⟩
 |halt h w'=>exact .inr ⟨h,w',by simp⟩
theorem BR{o:Oper}(h:looks o=true)(ρ:Operand→Value)(w:World):(∃v w',(execOp ρ o).run P w=.ok (.value v) w')∨∃h w',(execOp ρ o).run P w=.halt h w':=by
 obtain⟨dst,op,type,pos,after,guard⟩:=o
 cases op<;>simp only[looks,Bool.false_eq_true]at h<;>simp only[execOp]
 case move x=>exact .inl ⟨_,w,rfl⟩
 case assign x=>exact .inl ⟨_,w,rfl⟩
 case pick c a b=>
  rw[Sem.run_bind]
  cases (asBool (ρ c)).run P w with
  |ok v w'=>exact .inl ⟨_,w',by simp;rfl⟩
  |halt h w'=>exact .inr ⟨h,w',by simp⟩
 case call c=>
  obtain⟨callee,args,ats⟩:=c
  cases callee with
  |value f=>simp at h
  |invoke r m=>simp at h
  |builtin b=>cases b<;>simp at h<;>exact PM _ w
 all_goals exact PM _ w
theorem bz{a:Act}{w:World}(h:Q a w):aG P ops st S Q [] a w:=h
theorem ai{o:Oper}{rest:List Oper}{a:Act}{w:World}(hw:Region.wanted o (yielded ops a.tmps)=false)(h:aG P ops st S Q rest (a.put o.dst undef) w):aG P ops st S Q (o::rest) a w:=by
 rw[bF,if_neg (by simp[hw])];exact h
theorem au{o:Oper}{rest:List Oper}{a:Act}{w:World}(hw:Region.wanted o (yielded ops a.tmps)=true)(hs:looks o=true)
  (h:∀K:Act→Prop,(∀a',aG P ops looks S Q rest a' w→K a')→o.quiet P a S K):aG P ops looks S Q (o::rest) a w:=by
 rw[bF,if_pos hw,if_pos hs]
 obtain⟨v,hv,hh⟩:=h _ (fun _ x=>x)
 refine⟨v,fun w' hw'=>?_,hh⟩
 have:=hv w' hw'
 unfold Oper.quietAt at this
 rcases BR (P:=P) hs a.eval w' with⟨u,w'',e⟩|⟨x,w'',e⟩
 ·rw[e]at this ⊢
  obtain⟨rfl,rfl⟩:=this
  rfl
 ·rw[e]at this
  exact this.elim
theorem aB{o:Oper}{rest:List Oper}{a:Act}{w:World}(hw:Region.wanted o (yielded ops a.tmps)=true)(hs:looks o=false)
  (h:∀K:Act→World→Prop,(∀a' w',S w'→aG P ops looks S Q rest a' w'→K a' w')→o.wp P a w K never):aG P ops looks S Q (o::rest) a w:=by
 rw[bF,if_pos hw,if_neg (by simp[hs])]
 exact h _ (fun _ _ x y=>⟨x,y⟩)
end
abbrev since(w:World):World→Prop:=fun w'=>∃x:Later w,w'=x.w
theorem nz{P:Program}{id:Nat}{Q':Exit→Act→World→Prop}{a:Act}{W w:World}{l:List Oper}(hW:Below W.heap.size W w)(hm:P.follows .mixedOrders=true)(hB:ny looks l.toArray=true)
  (h:∀w1,Below W.heap.size W w1→aG P l.toArray looks (since W) (fun a' w'=>Q' .normal a' w') l a w1):(Code.region id l.toArray true).wp P Q' a w:=
 BQ (since W) looks hm hB ⟨⟨w.drew,hW.drew⟩,rfl⟩ (h _ hW.drew)
theorem aj{W w:World}(h:Below W.heap.size W w):since W w:=⟨⟨w,h⟩,rfl⟩
theorem ag{W w w':World}(h:Below W.heap.size W w)(h':Below w.heap.size w w'):Below W.heap.size W w':=h.trans (h'.mono h.size)
theorem ay{W w:World}(h:Below W.heap.size W w)(o:Obj):Below W.heap.size W (w.alloc o):=h.alloc h.size o
end Go.WW
namespace Go.WW
structure Sl where
 a:Option Addr
 cap:Nat
structure aH where
 parts:List ByteArray
 aJ:ByteArray
structure Key where
 profile:Int
 version:Int
 bytes:List UInt8
structure bP where
 version:Int
 keys:List Key
 dK:ByteArray
 dX:Int
 created:Int
structure Entry where
 name:aH
 aliases:List aH
 attrs:Int
 fH:Int
 keys:List bP
 aP:ByteArray
 jS:Int
 jT:Int
 jF:Int
 jG:Int
 fails:Int
 dw:Int
 iw:Int
 targets:List aH
 bW:List aH
 history:List (List UInt8)
structure ah where
 name:ByteArray
 length:Int
 classes:Int
 distinct:Int
 history:Int
 iU:Int
 eG:Int
 fails:Int
 window:Int
 lock:Int
structure aK where
 parts:Sl
 aliases:Sl
 keys:Sl
 targets:Sl
 bW:Sl
 history:Sl
def az(s:Sl)(p:aH):Array Value:=#[.slice s.a p.parts.length s.cap,.string p.aJ]
theorem ER(s:Sl)(p:aH):(az s p).size=2:=by simp[az]
theorem PN(s:Sl)(p:aH):dL (az s p)=true:=by simp[dL,az,Value.oneCell']
theorem YQ(s:Sl)(p:aH)(h:0<(az s p).size):(az s p)[0]'h=.slice s.a p.parts.length s.cap:=by simp[az]
theorem PO(s:Sl)(p:aH):(az s p)[1]?=some (.string p.aJ):=by simp[az]
theorem YR(s:Sl)(p:aH)(h:1<(az s p).size):(az s p)[1]'h=.string p.aJ:=by simp[az]
attribute [go_sem] ER PN YQ PO YR
def dD(s:Sl)(k:Key):Array Value:=#[.int .i64 k.profile,.int .i64 k.version,.slice s.a k.bytes.length s.cap]
theorem YS(s:Sl)(k:Key):(dD s k).size=3:=by simp[dD]
theorem YT(s:Sl)(k:Key):dL (dD s k)=true:=by simp[dL,dD,Value.oneCell']
theorem YU(s:Sl)(k:Key)(h:0<(dD s k).size):(dD s k)[0]'h=.int .i64 k.profile:=by simp[dD]
theorem YV(s:Sl)(k:Key)(h:1<(dD s k).size):(dD s k)[1]'h=.int .i64 k.version:=by simp[dD]
theorem YW(s:Sl)(k:Key)(h:2<(dD s k).size):(dD s k)[2]'h=.slice s.a k.bytes.length s.cap:=by simp[dD]
attribute [go_sem] YS YT YU YV YW
def bY(s:Sl)(k:bP):Array Value:=#[.int .i64 k.version,.slice s.a k.keys.length s.cap,.string k.dK,.int .i64 k.dX,.int .i64 k.created]
theorem YX(s:Sl)(k:bP):(bY s k).size=5:=by simp[bY]
theorem YY(s:Sl)(k:bP):dL (bY s k)=true:=by simp[dL,bY,Value.oneCell']
theorem Jo(s:Sl)(k:bP):(bY s k)[0]?=some (.int .i64 k.version):=by simp[bY]
theorem YZ(s:Sl)(k:bP)(h:0<(bY s k).size):(bY s k)[0]'h=.int .i64 k.version:=by simp[bY]
theorem Y0(s:Sl)(k:bP)(h:1<(bY s k).size):(bY s k)[1]'h=.slice s.a k.keys.length s.cap:=by simp[bY]
theorem Y1(s:Sl)(k:bP)(h:2<(bY s k).size):(bY s k)[2]'h=.string k.dK:=by simp[bY]
theorem Y2(s:Sl)(k:bP)(h:3<(bY s k).size):(bY s k)[3]'h=.int .i64 k.dX:=by simp[bY]
theorem Jp(s:Sl)(k:bP):(bY s k)[4]?=some (.int .i64 k.created):=by simp[bY]
theorem Y3(s:Sl)(k:bP)(h:4<(bY s k).size):(bY s k)[4]'h=.int .i64 k.created:=by simp[bY]
attribute [go_sem] YX YY Jo YZ Y0 Y1 Y2 Jp Y3
def ae(r:aK)(d:Entry):Array Value:=#[.slice r.parts.a d.name.parts.length r.parts.cap,.string d.name.aJ,.slice r.aliases.a d.aliases.length r.aliases.cap,.int .u32 d.attrs,.int .i64 d.fH,.slice r.keys.a d.keys.length r.keys.cap,.string d.aP,.int .i64 d.jS,.int .i64 d.jT,.int .i64 d.jF,.int .i64 d.jG,.int .i64 d.fails,.int .i64 d.dw,.int .i64 d.iw,.slice r.targets.a d.targets.length r.targets.cap,.slice r.bW.a d.bW.length r.bW.cap,.slice r.history.a d.history.length r.history.cap]
theorem oP(r:aK)(d:Entry):(ae r d).size=17:=by simp[ae]
theorem PQ(r:aK)(d:Entry):dL (ae r d)=true:=by simp[dL,ae,Value.oneCell']
theorem Y4(r:aK)(d:Entry)(h:1<(ae r d).size):(ae r d)[1]'h=.string d.name.aJ:=by simp[ae]
theorem Y5(r:aK)(d:Entry)(h:2<(ae r d).size):(ae r d)[2]'h=.slice r.aliases.a d.aliases.length r.aliases.cap:=by simp[ae]
theorem Y6(r:aK)(d:Entry)(h:3<(ae r d).size):(ae r d)[3]'h=.int .u32 d.attrs:=by simp[ae]
theorem Y7(r:aK)(d:Entry)(h:4<(ae r d).size):(ae r d)[4]'h=.int .i64 d.fH:=by simp[ae]
theorem Y8(r:aK)(d:Entry)(h:5<(ae r d).size):(ae r d)[5]'h=.slice r.keys.a d.keys.length r.keys.cap:=by simp[ae]
theorem BU(r:aK)(d:Entry):(ae r d)[6]?=some (.string d.aP):=by simp[ae]
theorem Y9(r:aK)(d:Entry)(h:6<(ae r d).size):(ae r d)[6]'h=.string d.aP:=by simp[ae]
theorem Za(r:aK)(d:Entry)(h:7<(ae r d).size):(ae r d)[7]'h=.int .i64 d.jS:=by simp[ae]
theorem Zb(r:aK)(d:Entry)(h:8<(ae r d).size):(ae r d)[8]'h=.int .i64 d.jT:=by simp[ae]
theorem Zc(r:aK)(d:Entry)(h:9<(ae r d).size):(ae r d)[9]'h=.int .i64 d.jF:=by simp[ae]
theorem Zd(r:aK)(d:Entry)(h:10<(ae r d).size):(ae r d)[10]'h=.int .i64 d.jG:=by simp[ae]
theorem PR(r:aK)(d:Entry):(ae r d)[11]?=some (.int .i64 d.fails):=by simp[ae]
theorem Ze(r:aK)(d:Entry)(h:11<(ae r d).size):(ae r d)[11]'h=.int .i64 d.fails:=by simp[ae]
theorem PS(r:aK)(d:Entry):(ae r d)[12]?=some (.int .i64 d.dw):=by simp[ae]
theorem Zf(r:aK)(d:Entry)(h:12<(ae r d).size):(ae r d)[12]'h=.int .i64 d.dw:=by simp[ae]
theorem PT(r:aK)(d:Entry):(ae r d)[13]?=some (.int .i64 d.iw):=by simp[ae]
theorem Zg(r:aK)(d:Entry)(h:13<(ae r d).size):(ae r d)[13]'h=.int .i64 d.iw:=by simp[ae]
theorem Zh(r:aK)(d:Entry)(h:14<(ae r d).size):(ae r d)[14]'h=.slice r.targets.a d.targets.length r.targets.cap:=by simp[ae]
theorem Zi(r:aK)(d:Entry)(h:15<(ae r d).size):(ae r d)[15]'h=.slice r.bW.a d.bW.length r.bW.cap:=by simp[ae]
theorem Zj(r:aK)(d:Entry)(h:16<(ae r d).size):(ae r d)[16]'h=.slice r.history.a d.history.length r.history.cap:=by simp[ae]
theorem Zk(r:aK)(d:Entry)(v:Int):(ae r d).setIfInBounds 4 (.int .i64 v)=ae r {d with fH:=v}:=by kernel_rfl
theorem Zl(r:aK)(d:Entry)(v:Int):(ae r d).setIfInBounds 7 (.int .i64 v)=ae r {d with jS:=v}:=by kernel_rfl
theorem Zm(r:aK)(d:Entry)(v:Int):(ae r d).setIfInBounds 8 (.int .i64 v)=ae r {d with jT:=v}:=by kernel_rfl
theorem Zn(r:aK)(d:Entry)(v:Int):(ae r d).setIfInBounds 9 (.int .i64 v)=ae r {d with jF:=v}:=by kernel_rfl
theorem Zo(r:aK)(d:Entry)(v:Int):(ae r d).setIfInBounds 10 (.int .i64 v)=ae r {d with jG:=v}:=by kernel_rfl
theorem Zp(r:aK)(d:Entry)(v:Int):(ae r d).setIfInBounds 11 (.int .i64 v)=ae r {d with fails:=v}:=by kernel_rfl
theorem Zq(r:aK)(d:Entry)(v:Int):(ae r d).setIfInBounds 12 (.int .i64 v)=ae r {d with dw:=v}:=by kernel_rfl
theorem Zr(r:aK)(d:Entry)(v:Int):(ae r d).setIfInBounds 13 (.int .i64 v)=ae r {d with iw:=v}:=by kernel_rfl
theorem PU(r:aK)(d:Entry):gy (ae r d) 0 2=some (az r.parts d.name):=by kernel_rfl
attribute [go_sem] oP PQ Y4 Y5 Y6 Y7 Y8 BU Y9 Za Zb Zc Zd PR Ze PS Zf PT Zg Zh Zi Zj Zk Zl Zm Zn Zo Zp Zq Zr PU
def ak(p:ah):Array Value:=#[.string p.name,.int .i64 p.length,.int .i64 p.classes,.int .i64 p.distinct,.int .i64 p.history,.int .i64 p.iU,.int .i64 p.eG,.int .i64 p.fails,.int .i64 p.window,.int .i64 p.lock]
theorem og(p:ah):(ak p).size=10:=by simp[ak]
theorem PV(p:ah):dL (ak p)=true:=by simp[dL,ak,Value.oneCell']
theorem Zt(p:ah)(h:0<(ak p).size):(ak p)[0]'h=.string p.name:=by simp[ak]
theorem Zu(p:ah)(h:1<(ak p).size):(ak p)[1]'h=.int .i64 p.length:=by simp[ak]
theorem Zv(p:ah)(h:2<(ak p).size):(ak p)[2]'h=.int .i64 p.classes:=by simp[ak]
theorem Zw(p:ah)(h:3<(ak p).size):(ak p)[3]'h=.int .i64 p.distinct:=by simp[ak]
theorem Zx(p:ah)(h:4<(ak p).size):(ak p)[4]'h=.int .i64 p.history:=by simp[ak]
theorem Zy(p:ah)(h:5<(ak p).size):(ak p)[5]'h=.int .i64 p.iU:=by simp[ak]
theorem Zz(p:ah)(h:6<(ak p).size):(ak p)[6]'h=.int .i64 p.eG:=by simp[ak]
theorem ZA(p:ah)(h:7<(ak p).size):(ak p)[7]'h=.int .i64 p.fails:=by simp[ak]
theorem ZB(p:ah)(h:8<(ak p).size):(ak p)[8]'h=.int .i64 p.window:=by simp[ak]
theorem ZC(p:ah)(h:9<(ak p).size):(ak p)[9]'h=.int .i64 p.lock:=by simp[ak]
attribute [go_sem] og PV Zt Zu Zv Zw Zx Zy Zz ZA ZB ZC
def aY(r:aK)(d:Entry)(p:ah):Array Value:=#[.slice r.parts.a d.name.parts.length r.parts.cap,.string d.name.aJ,.slice r.aliases.a d.aliases.length r.aliases.cap,.int .u32 d.attrs,.int .i64 d.fH,.slice r.keys.a d.keys.length r.keys.cap,.string d.aP,.int .i64 d.jS,.int .i64 d.jT,.int .i64 d.jF,.int .i64 d.jG,.int .i64 d.fails,.int .i64 d.dw,.int .i64 d.iw,.slice r.targets.a d.targets.length r.targets.cap,.slice r.bW.a d.bW.length r.bW.cap,.slice r.history.a d.history.length r.history.cap,.string p.name,.int .i64 p.length,.int .i64 p.classes,.int .i64 p.distinct,.int .i64 p.history,.int .i64 p.iU,.int .i64 p.eG,.int .i64 p.fails,.int .i64 p.window,.int .i64 p.lock]
theorem ZE(r:aK)(d:Entry)(p:ah):(aY r d p).size=27:=by simp[aY]
theorem ZF(r:aK)(d:Entry)(p:ah):dL (aY r d p)=true:=by simp[dL,aY,Value.oneCell']
theorem ZG(r:aK)(d:Entry)(p:ah)(h:11<(aY r d p).size):(aY r d p)[11]'h=.int .i64 d.fails:=by simp[aY]
theorem ZH(r:aK)(d:Entry)(p:ah)(h:12<(aY r d p).size):(aY r d p)[12]'h=.int .i64 d.dw:=by simp[aY]
theorem ZI(r:aK)(d:Entry)(p:ah)(h:13<(aY r d p).size):(aY r d p)[13]'h=.int .i64 d.iw:=by simp[aY]
theorem ZJ(r:aK)(d:Entry)(p:ah)(h:24<(aY r d p).size):(aY r d p)[24]'h=.int .i64 p.fails:=by simp[aY]
theorem ZK(r:aK)(d:Entry)(p:ah)(h:25<(aY r d p).size):(aY r d p)[25]'h=.int .i64 p.window:=by simp[aY]
theorem ZL(r:aK)(d:Entry)(p:ah)(h:26<(aY r d p).size):(aY r d p)[26]'h=.int .i64 p.lock:=by simp[aY]
theorem ZM(r:aK)(d:Entry)(p:ah)(v:Int):(aY r d p).setIfInBounds 4 (.int .i64 v)=aY r {d with fH:=v} p:=by kernel_rfl
theorem ZN(r:aK)(d:Entry)(p:ah)(v:Int):(aY r d p).setIfInBounds 7 (.int .i64 v)=aY r {d with jS:=v} p:=by kernel_rfl
theorem ZO(r:aK)(d:Entry)(p:ah)(v:Int):(aY r d p).setIfInBounds 8 (.int .i64 v)=aY r {d with jT:=v} p:=by kernel_rfl
theorem ZP(r:aK)(d:Entry)(p:ah)(v:Int):(aY r d p).setIfInBounds 9 (.int .i64 v)=aY r {d with jF:=v} p:=by kernel_rfl
theorem ZQ(r:aK)(d:Entry)(p:ah)(v:Int):(aY r d p).setIfInBounds 10 (.int .i64 v)=aY r {d with jG:=v} p:=by kernel_rfl
theorem ZR(r:aK)(d:Entry)(p:ah)(v:Int):(aY r d p).setIfInBounds 11 (.int .i64 v)=aY r {d with fails:=v} p:=by kernel_rfl
theorem ZT(r:aK)(d:Entry)(p:ah)(v:Int):(aY r d p).setIfInBounds 12 (.int .i64 v)=aY r {d with dw:=v} p:=by kernel_rfl
theorem ZU(r:aK)(d:Entry)(p:ah)(v:Int):(aY r d p).setIfInBounds 13 (.int .i64 v)=aY r {d with iw:=v} p:=by kernel_rfl
theorem ZV(r:aK)(d:Entry)(p:ah):gy (aY r d p) 0 17=some (ae r d):=by kernel_rfl
theorem ZW(r:aK)(d:Entry)(p:ah):gy (aY r d p) 17 10=some (ak p):=by kernel_rfl
theorem ZX(r:aK)(d:Entry)(p:ah):gy (aY r d p) 0 2=some (az r.parts d.name):=by kernel_rfl
theorem ZY(r:aK)(d:Entry)(p:ah):(aY r d p).extract 0 17=ae r d:=by kernel_rfl
theorem ZZ(r:aK)(d:Entry)(p:ah):(aY r d p).extract 17 27=ak p:=by kernel_rfl
attribute [go_sem] ZE ZF ZG ZH ZI ZJ ZK ZL ZM ZN ZO ZP ZQ ZR ZT ZU ZV ZW ZX ZY ZZ
end Go.WW
