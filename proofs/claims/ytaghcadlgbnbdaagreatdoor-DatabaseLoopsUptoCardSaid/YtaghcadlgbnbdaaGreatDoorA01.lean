/- A part of the proof. -/
import Derived.WalkKit
import Derived.WalkLawsBesides
import Derived.WalkSpells
import Derived.Deep.QuietTactic
import Derived.BigQuiet
import Derived.Deep.MidRow
import Derived.Lib.Hide
import Derived.KernelRfl
import Derived.Test.YtaghcadlgbnbdaaGreatDoorProg
import Derived.Maps.AppendAt
import Derived.Deep.AppendLies
import Derived.OwnWalk
import Derived.Laws.BytesString
import Derived.RangeFuncOwn
import Derived.Test.YtaghcadlgbnbdaaGreatDoorRows
import Derived.Deep.Slices
import Derived.ChangeArms
import Derived.ProofKit
import Derived.OpenShut
set_option maxRecDepth 100000
namespace Go.WW
open Go.RowKit
def row?(w:World)(b o n:Nat):Option (Array Value):=
 match w.heap[b]? with
 |some (.cells c _ _)=>if o+n≤c.size then some (c.extract o (o+n))else none
 |_=>none
theorem fO{w w':World}{b:Nat}(h:w'.heap[b]?=w.heap[b]?)(o n:Nat):row? w' b o n=row? w b o n:=by simp[row?,h]
theorem yE{w:World}{b o n:Nat}{cs:Array Value}(h:row? w b o n=some cs):cs.size=n:=by
 unfold row? at h
 split at h
 ·split at h
  ·cases h;simp;omega
  ·cases h
 ·cases h
theorem gp{w:World}{b o n:Nat}{cs:Array Value}(h:row? w b o n=some cs)(j:Nat)(hj:j<n):w.cell? ⟨b,o+j,none⟩=cs[j]?:=by
 unfold row? at h
 split at h
 ·rename_i c t f hb
  split at h
  ·cases h
   rw[cell_of_row w b (o+j) c t f hb]
   simp[Array.getElem?_extract]
   intro h1;omega
  ·cases h
 ·cases h
theorem gq{w:World}{b o n:Nat}{cs:Array Value}(h:row? w b o n=some cs):b<w.heap.size:=by
 unfold row? at h
 split at h
 ·rename_i hb;exact(Array.getElem?_eq_some_iff.1 hb).1
 ·cases h
theorem SL{w:World}{b o n:Nat}{cs:Array Value}(h:row? w b o n=some cs):w.rangeAt b o cs.toList:=by
 intro j v hv
 have hs:=yE h
 have hj:j<n:=by
  have:=(List.getElem?_eq_some_iff.1 hv).1;simp at this;omega
 rw[gp h j hj];simpa using hv
def jq(T:TypeId)(v:Value):Sem Next:=do pure (.value (←Instr.loadAt T v))
def qM(P:Program)(T:TypeId)(w:World)(b o:Nat):Option (Array Value)→Result Next
 |some cs=>.ok (.value (.agg cs)) w
 |none=>(jq T (.pointer (some ⟨b,o,none⟩))).run P w
theorem SN(P:Program)(T:TypeId)(w:World)(b o:Nat)(cs:Array Value):qM P T w b o (some cs)=.ok (.value (.agg cs)) w:=rfl
theorem uZ{P:Program}{T:TypeId}{d:TypeDesc}{n:Nat}(hu:P.underlying T=some d)(hd:d.isRow=true)(hi:(P.info? T).map (·.size)=some n)(w:World)(b o:Nat) :
  (jq T (.pointer (some ⟨b,o,none⟩))).run P w=qM P T w b o (row? w b o n):=by
 cases h:row? w b o n with
 |none=>rfl
 |some cs=>
  rw[SN]
  have hs:=yE h
  have:=run_loadAt_mid (P:=P) w b o T cs.toList d (SL h) hu hd (by rw[hi];simp[hs])
  simp only[jq,Sem.run_bind,this,Result.andThen_ok,Sem.run_pure]
def eQ(cs:Array Value)(o n:Nat):Option (Array Value):=if o+n≤cs.size then some (cs.extract o (o+n))else none
theorem dH{cs:Array Value}{n:Nat}(hn:cs.size=n):eQ cs 0 n=some cs:=by subst hn;simp[eQ]
theorem G6{w:World}{cs:Array Value}{t:TypeId}{k o n:Nat}(hk:k=w.heap.size):row? (w.alloc (.cells cs t)) k o n=eQ cs o n:=by
 subst hk
 have:(w.alloc (.cells cs t)).heap[w.heap.size]?=some (.cells cs t):=by show(w.heap.push _)[w.heap.size]?=_;simp
 unfold row? eQ;rw[this]
theorem SQ{w:World}{ob:Obj}{k o n:Nat}(hk:k<w.heap.size):row? (w.alloc ob) k o n=row? w k o n:=
 fO (Below.heap_alloc w ob k hk) o n
theorem abm(w:World)(k o n:Nat):row? w.drew k o n=row? w k o n:=rfl
theorem abn{w:World}{p:Addr}{v:Value}{k o n:Nat}(h:k≠p.block):row? (w.setCell p v) k o n=row? w k o n:=
 fO (Below.heap_setCell w p v k h) o n
def jQ(T:TypeId)(p v:Value):Sem Next:=do Instr.storeAt T p v;pure .skip
def aJ(w:World)(b o n:Nat):Bool:=
 match w.heap[b]? with
 |some (.cells c _ f)=>decide (o+n≤c.size)&&decide (f=(0,0))
 |_=>false
def putRow(w:World)(b o:Nat)(cs:Array Value):World:=w.setCells b o cs.toList
def tH(P:Program)(T:TypeId)(w:World)(b o:Nat)(cs:Array Value):Bool→Result Next
 |true=>.ok .skip (putRow w b o cs)
 |false=>(jQ T (.pointer (some ⟨b,o,none⟩)) (.agg cs)).run P w
theorem SS(P:Program)(T:TypeId)(w:World)(b o:Nat)(cs:Array Value):tH P T w b o cs true=.ok .skip (putRow w b o cs):=rfl
theorem SV{w:World}{b o n:Nat}(h:aJ w b o n=true):w.there b o n:=by
 unfold aJ at h
 split at h
 ·rename_i c t f hb
  simp only[Bool.and_eq_true,decide_eq_true_eq]at h
  obtain⟨h1,rfl⟩:=h
  intro j hj
  exact⟨by rw[cell_of_row w b (o+j) c t _ hb];simp;omega,frozen_of_row w b (o+j) c t hb⟩
 ·cases h
def dD(cs:Array Value):Bool:=cs.all (·.oneCell')
theorem wX{P:Program}{T:TypeId}{n:Nat}(hi:(P.info? T).map (·.size)=some n)(w:World)(b o:Nat)(cs:Array Value)(hn:cs.size=n)(h1:dD cs=true) :
  (jQ T (.pointer (some ⟨b,o,none⟩)) (.agg cs)).run P w=tH P T w b o cs (aJ w b o n):=by
 cases h:aJ w b o n with
 |false=>rfl
 |true=>
  rw[SS]
  have:=run_storeAt_mid (P:=P) w b o T cs (by rw[hn];exact SV h) (by rw[hi,hn]) h1
  simp only[jQ,Sem.run_bind,this,Result.andThen_ok,Sem.run_pure]
  rfl
theorem abo{w:World}{cs:Array Value}{t:TypeId}{k o n:Nat}(hk:k=w.heap.size)(hn:o+n≤cs.size):aJ (w.alloc (.cells cs t)) k o n=true:=by
 subst hk
 have:(w.alloc (.cells cs t)).heap[w.heap.size]?=some (.cells cs t):=by show(w.heap.push _)[w.heap.size]?=_;simp
 unfold aJ;rw[this];simp[hn]
theorem abp{w:World}{ob:Obj}{k o n:Nat}(hk:k<w.heap.size):aJ (w.alloc ob) k o n=aJ w k o n:=by
 unfold aJ;rw[Below.heap_alloc w ob k hk]
theorem tJ{w w':World}{b:Nat}(h:w'.heap[b]?=w.heap[b]?)(o n:Nat):aJ w' b o n=aJ w b o n:=by unfold aJ;rw[h]
theorem SX(w:World)(t:TypeId):∀(l:List Value) (o:Nat) (c:Array Value),(w.alloc (.cells c t)).setCells w.heap.size o l=w.alloc (.cells ((l.zipIdx o).foldl (fun c x=>c.setIfInBounds x.2 x.1) c) t)
 | [],_,_=>rfl
 |v::l,o,c=>by
  rw[World.setCells,World.setCell_alloc_at _ _ _ _ _ rfl,SX w t l (o+1)]
  rfl
theorem SY(pre:List Value):∀(l m:List Value),l.length=m.length→
  ((m.zipIdx pre.length).foldl (fun(c:Array Value) x=>c.setIfInBounds x.2 x.1) (pre++l).toArray)=(pre++m).toArray
 | [],[],_=>by simp
 |x::l,y::m,h=>by
  have ih:=SY (pre++[y]) l m (by simpa using h)
  simp only[List.zipIdx_cons,List.foldl_cons]
  have e:(pre++x::l).toArray.setIfInBounds pre.length y=((pre++[y])++l).toArray:=by simp
  rw[e]
  simpa using ih
theorem abq{w:World}{c cs:Array Value}{t:TypeId}{k:Nat}(hk:k=w.heap.size)(hn:c.size=cs.size):putRow (w.alloc (.cells c t)) k 0 cs=w.alloc (.cells cs t):=by
 subst hk
 unfold putRow
 rw[SX]
 have:=SY [] c.toList cs.toList (by simpa using hn)
 simp only[List.length_nil,List.nil_append]at this
 have e:c.toList.toArray=c:=by simp
 rw[e]at this
 rw[this]
attribute [go_sem] SS abo abp abq
structure Later(W:World) where
 w:World
 b:Below W.heap.size W w
instance {W:World}:Nonempty (Later W):=⟨⟨W,Below.refl _ _⟩⟩
section
variable {W:World} (x:Later W) (b o:Nat) (h:b<W.heap.size)
include h
theorem Later.cell:x.w.cell? ⟨b,o,none⟩=W.cell? ⟨b,o,none⟩:=x.b.cell (p:=⟨b,o,none⟩) h
theorem Later.frozen:x.w.frozen? ⟨b,o,none⟩=W.frozen? ⟨b,o,none⟩:=x.b.frozen (p:=⟨b,o,none⟩) h
theorem Later.row(n:Nat):row? x.w b o n=row? W b o n:=fO (x.b.block b h) o n
end
theorem dP{P:Program}{id:Nat}{Q:Exit→Act→World→Prop}{a:Act}{W w:World}{l:List Oper}(hW:Below W.heap.size W w)(hm:P.follows .mixedOrders=true)(hB:Region.lexB .any l.toArray=true)
  (h:wpQuiet P l.toArray (fun w'=>∃x:Later W,w'=x.w) (fun a'=>∀w',Below W.heap.size W w'→Q .normal a' w') l a):(Code.region id l.toArray true).wp P Q a w:=by
 refine wp_region_quiet (C:=fun w'=>∃x:Later W,w'=x.w) hm hB ⟨⟨w.drew,hW.drew⟩,rfl⟩ ?_
 have:(fun a'=>∀w',(∃x:Later W,w'=x.w)→Q .normal a' w')=(fun a'=>∀w',Below W.heap.size W w'→Q .normal a' w'):=by
  funext a';apply propext
  exact⟨fun h w' hw'=>h w' ⟨⟨w',hw'⟩,rfl⟩,fun h w' ⟨x,hx⟩=>hx▸h _ x.b⟩
 rw[this]
 simpa using h
theorem Calls.DI{P:Program}{f:FuncId}{args:Array Value}{W:World}{x:Later W}{v:Value}
  (h:Calls P f args x.w fun e w'=>e=.returned v∧x.w=w'):Calls P f args x.w fun e w''=>e=.returned v∧∃y:Later W,w''=y.w:=
 h.mono fun _ _ ⟨he,hb⟩=>⟨he,x,hb.symm⟩
theorem Calls.gX{P:Program}{f:FuncId}{args:Array Value}{W:World}{x:Later W}{v:Value}
  (h:Calls P f args x.w fun e w'=>e=.returned v∧Below x.w.heap.size x.w w'):Calls P f args x.w fun e w''=>e=.returned v∧∃y:Later W,w''=y.w:=
 h.mono fun _ w' ⟨he,hb⟩=>⟨he,⟨w',x.b.trans (hb.mono x.b.size)⟩,rfl⟩
theorem bf{W w1:World}(hb:Below W.heap.size W w1):(∀b o,b<W.heap.size→w1.cell? ⟨b,o,none⟩=W.cell? ⟨b,o,none⟩)∧(∀b o,b<W.heap.size→w1.frozen? ⟨b,o,none⟩=W.frozen? ⟨b,o,none⟩)∧
  (∀b o n,b<W.heap.size→row? w1 b o n=row? W b o n):=
 ⟨fun b o h=>hb.cell (p:=⟨b,o,none⟩) h,fun b o h=>hb.frozen (p:=⟨b,o,none⟩) h,fun b o n h=>fO (hb.block b h) o n⟩
attribute [go_sem] SN dH G6 SQ abm abn Later.cell Later.frozen Later.row
end Go.WW
namespace Go.WW
open Go.RowKit
section
variable {P:Program} {ops:Array Oper} {S:World→Prop} {st:Oper→Bool} {Q:Act→World→Prop}
abbrev never:Exit→Act→World→Prop:=fun _ _ _=>False
def aF(P:Program)(ops:Array Oper)(st:Oper→Bool)(S:World→Prop)(Q:Act→World→Prop):List Oper→Act→World→Prop
 | [],a,w=>Q a w
 |o::rest,a,w=>
  if Region.wanted o (yielded ops a.tmps)then
   if st o then ∃v,(∀w',S w'→(execOp a.eval o).run P w'=.ok (.value v) w')∧aF P ops st S Q rest (a.put o.dst v) w
   else o.wp P a w (fun a' w'=>S w'∧aF P ops st S Q rest a' w') never
  else aF P ops st S Q rest (a.put o.dst undef) w
theorem tK{o:Oper}{a:Act}{w:World}{K:Act→World→Prop}{Q':Exit→Act→World→Prop}(h:o.wp P a w K never):o.wp P a w K Q':=by
 unfold Oper.wp at *
 generalize (execOp a.eval o).run P w=r at *
 cases r with
 |ok n w'=>
  cases n<;>simp only[Oper.upon]at h ⊢<;>
   first
    |exact h
    |exact Calls.mono h (fun e w'' he=>by cases e<;>first|exact he|exact he.elim|(obtain⟨_,_,he⟩:=he;exact he.elim))
 |halt x w'=>cases x<;>simp only[Oper.upon,never]at h ⊢
theorem tN{o:Oper}{a:Act}{w:World}{K:Act→World→Prop}(h:o.wp P a w K never) :
  o.wp P a w (fun a' w'=>(∃u ds,a'=({a with defers:=ds}:Act).put o.dst u)∧K a' w') never:=by
 unfold Oper.wp at *
 generalize (execOp a.eval o).run P w=r at *
 cases r with
 |ok n w'=>
  cases n<;>simp only[Oper.upon]at h ⊢<;>
   first
    |exact⟨⟨_,a.defers,rfl⟩,h⟩
    |exact⟨⟨_,_,rfl⟩,h⟩
    |exact Calls.mono h (fun e w'' he=>by cases e<;>first|exact⟨⟨_,a.defers,rfl⟩,he⟩|exact he)
    |exact Rows.mono h (fun _ _ he=>⟨⟨_,a.defers,rfl⟩,he⟩)
    |exact h
 |halt x w'=>cases x<;>simp only[Oper.upon,never]at h ⊢
theorem G7{o:Oper}{a:Act}{w:World}{K:Act→World→Prop}(h:o.wp P a w K never):∃a' w',K a' w':=by
 unfold Oper.wp at *
 generalize (execOp a.eval o).run P w=r at *
 cases r with
 |ok n w'=>
  cases n<;>simp only[Oper.upon]at h<;>
   first
    |exact⟨_,_,h⟩
    |(obtain⟨e,w'',fr,hR,_⟩:=h []
      cases e with
      |returned v=>exact⟨_,_,hR⟩
      |panicked c=>exact hR.elim
      |outgrown=>obtain⟨_,_,hR⟩:=hR;exact hR.elim)
    |(obtain⟨v,w'',hR,_⟩:=h default [];exact⟨_,_,hR⟩)
    |exact h.elim
 |halt x w'=>cases x<;>simp only[Oper.upon,never]at h
theorem nM{o:Oper}{a:Act}{w:World}{K:Act→World→Prop}{dst:Option Tmp}{v:Value}(hs:∀cs b,o.op≠.select cs b)
  (h1:∀d,dst=some d→d∉o.looksAt ops) (h2:∀d,dst=some d→o.dst≠some d) :
  o.wp P (a.put dst v) w K never↔o.wp P a w (fun a' w'=>K (a'.put dst v) w') never:=by
 unfold Oper.wp
 rw[execOp_put o hs a dst v h1]
 generalize (execOp a.eval o).run P w=r
 have hc:∀(b:Act) u,(b.put dst v).put o.dst u=(b.put o.dst u).put dst v:=fun b u=>Act.put_comm b v u h2
 have hd:∀d,({a.put dst v with defers:=d::(a.put dst v).defers}:Act)=({a with defers:=d::a.defers}:Act).put dst v:=fun d=>Act.put_defers a dst v d
 cases r with
 |ok n w'=>
  cases n<;>simp only[Oper.upon,hc,hd]
 |halt x w'=>cases x<;>simp only[Oper.upon]
theorem bu(o:Oper)(rest:List Oper)(a:Act)(w:World):aF P ops st S Q (o::rest) a w =
  (if Region.wanted o (yielded ops a.tmps)then
   if st o then ∃v,(∀w',S w'→(execOp a.eval o).run P w'=.ok (.value v) w')∧aF P ops st S Q rest (a.put o.dst v) w
   else o.wp P a w (fun a' w'=>S w'∧aF P ops st S Q rest a' w') never
  else aF P ops st S Q rest (a.put o.dst undef) w):=rfl
theorem S9{l:List Oper}{Q':Act→World→Prop}(h:∀a w,Q a w→Q' a w):∀{a w},aF P ops st S Q l a w→aF P ops st S Q' l a w:=by
 induction l with
 |nil=>exact fun hh=>h _ _ hh
 |cons o l ih=>
  intro a w hh
  rw[bu]at *
  split
  ·rename_i hw
   simp only[hw,if_true]at hh
   split
   ·rename_i hs
    simp only[hs,if_true]at hh
    obtain⟨v,h1,h2⟩:=hh
    exact⟨v,h1,ih h2⟩
   ·rename_i hs
    simp only[hs]at hh
    exact Oper.wp_mono (fun a' w' ⟨x,y⟩=>⟨x,ih y⟩) hh
  ·rename_i hw
   simp only[hw]at hh
   exact ih hh
theorem DJ{o:Oper}{M M':List Oper}{a:Act}{w:World}(hS:S w)(h:∀a' w',S w'→aF P ops st S Q M a' w'→aF P ops st S Q M' a' w')
  (hh:aF P ops st S Q (o::M) a w):aF P ops st S Q (o::M') a w:=by
 rw[bu]at *
 split
 ·rename_i hw
  simp only[hw,if_true]at hh
  split
  ·rename_i hs
   simp only[hs,if_true]at hh
   obtain⟨v,h1,h2⟩:=hh
   exact⟨v,h1,h _ _ hS h2⟩
  ·rename_i hs
   simp only[hs]at hh
   exact Oper.wp_mono (fun a' w' ⟨x,y⟩=>⟨x,h _ _ x y⟩) hh
 ·rename_i hw
  simp only[hw]at hh
  exact h _ _ hS hh
theorem DK{x o:Oper}{L:List Oper}{a:Act}{w:World}(hx:∀cs b,x.op≠.select cs b)(ho:∀cs b,o.op≠.select cs b)
  (hap:x.apart ops o=true) (hst:st x=true∨st o=true) (h:aF P ops st S Q (x::o::L) a w):aF P ops st S Q (o::x::L) a w:=by
 obtain⟨h1,h2,h3⟩:=Oper.apart_spec hap
 have h2':∀d,o.dst=some d→x.dst≠some d:=fun d hd hxd=>h2 d hxd hd
 have wo:∀(b:Act) v,Region.wanted o (yielded ops (b.put x.dst v).tmps)=Region.wanted o (yielded ops b.tmps):=fun b v=>wanted_put o b x.dst v h1
 have wx:∀(b:Act) v,Region.wanted x (yielded ops (b.put o.dst v).tmps)=Region.wanted x (yielded ops b.tmps):=fun b v=>wanted_put x b o.dst v h3
 have eo:∀(b:Act) v,execOp (b.put x.dst v).eval o=execOp b.eval o:=fun b v=>execOp_put o ho b x.dst v h1
 have ex:∀(b:Act) v,execOp (b.put o.dst v).eval x=execOp b.eval x:=fun b v=>execOp_put x hx b o.dst v h3
 have hc:∀(b:Act) v u,(b.put x.dst v).put o.dst u=(b.put o.dst u).put x.dst v:=fun b v u=>Act.put_comm b v u h2
 rw[bu]at h ⊢
 by_cases hwx:Region.wanted x (yielded ops a.tmps)=true
 ·rw[if_pos hwx]at h
  by_cases hsx:st x=true
  ·rw[if_pos hsx]at h
   obtain⟨v,hv,h⟩:=h
   rw[bu,wo,eo]at h
   by_cases hwo:Region.wanted o (yielded ops a.tmps)=true
   ·rw[if_pos hwo]at h ⊢
    by_cases hso:st o=true
    ·rw[if_pos hso]at h ⊢
     obtain⟨u,hu,h⟩:=h
     refine⟨u,hu,?_⟩
     rw[bu,wx,if_pos hwx,if_pos hsx,ex]
     exact⟨v,hv,by rw[←hc];exact h⟩
    ·rw[if_neg hso]at h ⊢
     have h':=tN ((nM ho h1 h2).1 h)
     refine Oper.wp_mono ?_ h'
     rintro a' w' ⟨⟨u,ds,rfl⟩,hS',h⟩
     refine⟨hS',?_⟩
     rw[bu,wx,show Region.wanted x (yielded ops ({a with defers:=ds}:Act).tmps)=true from hwx,if_pos rfl,if_pos hsx,ex]
     exact⟨v,hv,h⟩
   ·rw[if_neg hwo]at h ⊢
    rw[bu,wx,if_pos hwx,if_pos hsx,ex]
    exact⟨v,hv,by rw[←hc];exact h⟩
  ·have hso:st o=true:=hst.resolve_left hsx
   rw[if_neg hsx]at h
   have h':=tN h
   by_cases hwo:Region.wanted o (yielded ops a.tmps)=true
   ·rw[if_pos hwo,if_pos hso]
    have key:∀a' w',((∃u ds,a'=({a with defers:=ds}:Act).put x.dst u)∧S w'∧aF P ops st S Q (o::L) a' w')→
      ∃v,(∀w',S w'→(execOp a.eval o).run P w'=.ok (.value v) w')∧S w'∧aF P ops st S Q L (a'.put o.dst v) w':=by
     rintro a' w' ⟨⟨u,ds,rfl⟩,hS',hh⟩
     rw[bu,wo,show Region.wanted o (yielded ops ({a with defers:=ds}:Act).tmps)=true from hwo,if_pos rfl,if_pos hso,eo]at hh
     obtain⟨v,hv,hh⟩:=hh
     exact⟨v,hv,hS',hh⟩
    obtain⟨a1,w1,h1'⟩:=G7 h'
    obtain⟨v,hv,_⟩:=key _ _ h1'
    refine⟨v,hv,?_⟩
    rw[bu,wx,if_pos hwx,if_neg hsx,nM hx h3 h2']
    refine Oper.wp_mono ?_ h'
    intro a' w' hh
    obtain⟨v',hv',hS',hh⟩:=key _ _ hh
    have e:v'=v:=by
     have:=(hv' _ hS').symm.trans (hv _ hS')
     simpa using this
    subst e
    exact⟨hS',hh⟩
   ·rw[if_neg hwo,bu,wx,if_pos hwx,if_neg hsx,nM hx h3 h2']
    refine Oper.wp_mono ?_ h'
    rintro a' w' ⟨⟨u,ds,rfl⟩,hS',hh⟩
    rw[bu,wo,show Region.wanted o (yielded ops ({a with defers:=ds}:Act).tmps)=false from by simpa using hwo,if_neg (by simp)]at hh
    exact⟨hS',hh⟩
 ·rw[if_neg hwx]at h
  rw[bu,wo,eo]at h
  by_cases hwo:Region.wanted o (yielded ops a.tmps)=true
  ·rw[if_pos hwo]at h ⊢
   by_cases hso:st o=true
   ·rw[if_pos hso]at h ⊢
    obtain⟨u,hu,h⟩:=h
    refine⟨u,hu,?_⟩
    rw[bu,wx,if_neg hwx,←hc]
    exact h
   ·rw[if_neg hso]at h ⊢
    have h':=tN ((nM ho h1 h2).1 h)
    refine Oper.wp_mono ?_ h'
    rintro a' w' ⟨⟨u,ds,rfl⟩,hS',h⟩
    refine⟨hS',?_⟩
    rw[bu,wx,show Region.wanted x (yielded ops ({a with defers:=ds}:Act).tmps)=false from by simpa using hwx,if_neg (by simp)]
    exact h
  ·rw[if_neg hwo]at h ⊢
   rw[bu,wx,if_neg hwx,←hc]
   exact h
theorem nN{o:Oper}{L2:List Oper}(ho:∀cs b,o.op≠.select cs b):∀(L1:List Oper),(∀x∈L1,(∀cs b,x.op≠.select cs b)∧x.apart ops o=true∧(st x=true∨st o=true))→
  ∀(a:Act) (w:World),S w→aF P ops st S Q (L1++o::L2) a w→aF P ops st S Q (o::(L1++L2)) a w
 | [],_,_,_,_,h=>h
 |x::L1,hall,a,w,hS,h=>by
  have hx:=hall x (by simp)
  refine DK hx.1 ho hx.2.1 hx.2.2 ?_
  exact DJ hS (fun a' w' hS' hh=>nN ho L1 (fun y hy=>hall y (by simp[hy])) a' w' hS' hh) h
def Aq(st:Oper→Bool)(ops:Array Oper):Array (List Nat):=
 ops.foldl (fun acc o=>acc.push (((o.after.toList.filter (Region.binds .any ·)).flatMap fun e=>(if((ops[e.on]?).map st).getD true then []else [e.on])++acc.getD e.on []).eraseDups)) #[]
def lJ(st:Oper→Bool)(ops:Array Oper):Bool:=
 let m:=Aq st ops
 Region.noSelect ops&&(List.range ops.size).all fun j=>match ops[j]? with
  |none=>true
  |some oj=>
   oj.after.toList.all (fun e=>!Region.binds .any e || decide (e.on<j))&&
   (m.getD j []).all (fun i=>oj.after.toList.any fun e=>Region.binds .any e&&(e.on == i || (m.getD e.on []).contains i))&&
   (List.range j).all fun i=>match ops[i]? with
    |none=>true
    |some oi=>oj.after.toList.any (fun e=>Region.binds .any e&&e.on == i) || (oi.apart ops oj&&(st oi || st oj || (m.getD j []).contains i))
structure tV(st:Oper→Bool)(ops:Array Oper)(m:Array (List Nat)):Prop where
 kU:Region.noSelect ops=true
 back:∀j oj,ops[j]?=some oj→∀e∈oj.after,Region.binds .any e=true→e.on<j
 pred:∀j oj,ops[j]?=some oj→∀i∈m.getD j [],∃e∈oj.after,Region.binds .any e=true∧(e.on=i∨i∈m.getD e.on [])
 pair:∀j oj,ops[j]?=some oj→∀i,i<j→∀oi,ops[i]?=some oi→(∃e∈oj.after,Region.binds .any e=true∧e.on=i)∨(oi.apart ops oj=true∧(st oi=true∨st oj=true∨i∈m.getD j []))
theorem Ar(h:lJ st ops=true):tV st ops (Aq st ops):=by
 unfold lJ at h
 simp only[Bool.and_eq_true,List.all_eq_true,List.mem_range]at h
 obtain⟨hs,h⟩:=h
 have lt:∀{j:Nat} {oj:Oper},ops[j]?=some oj→j<ops.size:=fun hj=>(Array.getElem?_eq_some_iff.1 hj).1
 refine⟨hs,fun j oj hj=>?_,fun j oj hj=>?_,fun j oj hj=>?_⟩
 all_goals
  have hh:=h j (lt hj)
  simp only[hj,Bool.and_eq_true,List.all_eq_true,List.mem_range]at hh
  obtain⟨⟨h1,h2⟩,h3⟩:=hh
 ·intro e he hb
  have:=h1 e (by simpa using he)
  simpa[hb]using this
 ·intro i hi
  have:=h2 i hi
  simp only[List.any_eq_true,Bool.and_eq_true,Bool.or_eq_true,beq_iff_eq,List.contains_iff_mem]at this
  obtain⟨e,he,hb,hor⟩:=this
  exact⟨e,by simpa using he,hb,hor⟩
 ·intro i hi oi ho
  have:=h3 i hi
  simp only[ho,Bool.or_eq_true,List.any_eq_true,Bool.and_eq_true,beq_iff_eq,List.contains_iff_mem]at this
  rcases this with⟨e,he,hb,hor⟩|⟨ha,hor⟩
  ·exact .inl ⟨e,by simpa using he,hb,hor⟩
  ·exact .inr ⟨ha,by rcases hor with(h|h)|h;exact .inl h;exact .inr (.inl h);exact .inr (.inr h)⟩
theorem Au{m:Array (List Nat)}(hok:tV st ops m){listed:Array Bool}
  (hdown:∀k o,ops[k]?=some o→listed.getD k false=true→∀e∈o.after,Region.binds .any e=true→listed.getD e.on false=true) :
  ∀(j:Nat) (oj:Oper),ops[j]?=some oj→(∀e∈oj.after,Region.binds .any e=true→listed.getD e.on false=true)→∀i∈m.getD j [],listed.getD i false=true:=by
 intro j
 induction j using Nat.strongRecOn with
 |_ j ih=>
  intro oj hj hall i hi
  obtain⟨e,he,hb,hor⟩:=hok.pred j oj hj i hi
  rcases hor with rfl|hor
  ·exact hall e he hb
  ·have hlt:=hok.back j oj hj e he hb
   have hjs:j<ops.size:=(Array.getElem?_eq_some_iff.1 hj).1
   have hoe:ops[e.on]?=some (ops[e.on]'(by omega)):=by simp
   exact ih e.on hlt _ hoe (hdown _ _ hoe (hall e he hb)) i hor
theorem ve{listed:Array Bool}{i:Nat}(h:listed.getD i false=true):listed.getD i true=true:=by
 rcases Nat.lt_or_ge i listed.size with h'|h'
 ·simp[h']at h ⊢;exact h
 ·simp[Array.getElem?_eq_none h']at h
theorem DL{m:Array (List Nat)}(hok:tV st ops m){Q':Exit→Act→World→Prop}(hQ:∀a w,Q a w→Q' .normal a w) :
  ∀(n:Nat) (L:List Nat) (listed:Array Bool) (a:Act) (w:World),L.length=n→L.Pairwise (· < ·)→listed.size=ops.size→(∀j,j∈L↔j<ops.size∧listed.getD j true=false)→
   (∀k o,ops[k]?=some o→listed.getD k false=true→∀e∈o.after,Region.binds .any e=true→listed.getD e.on false=true)→
   S w→aF P ops st S Q (L.filterMap (ops[·]?)) a w→wpAny P .any ops Q' n listed a w:=by
 intro n
 induction n with
 |zero=>
  intro L listed a w hn _ hsz hL _ _ h
  have:L=[]:=List.eq_nil_of_length_eq_zero hn
  subst this
  refine⟨?_,hQ _ _ h⟩
  cases hr:Region.ready .any ops listed with
  |nil=>rfl
  |cons i r=>
   have hi:i∈Region.ready .any ops listed:=by rw[hr];simp
   obtain⟨h0,o,ho,_⟩:=mem_ready.1 hi
   have:=(hL i).2 ⟨(Array.getElem?_eq_some_iff.1 ho).1,h0⟩
   cases this
 |succ n ih=>
  intro L listed a w hn hsort hsz hL hdown hS h
  refine⟨fun hr=>?_,fun i hi=>?_⟩
  ·exfalso
   cases L with
   |nil=>simp at hn
   |cons j L=>
    obtain⟨hj,hjl⟩:=(hL j).1 (by simp)
    have hoj:ops[j]?=some ops[j]:=by simp[hj]
    have:j∈Region.ready .any ops listed:=by
     refine mem_ready.2 ⟨hjl,_,hoj,fun e he hb=>?_⟩
     have hlt:=hok.back j _ hoj e he hb
     have hnot:e.on∉j::L:=by
      intro hmem
      rcases List.mem_cons.1 hmem with h1|h1
      ·omega
      ·have:=(List.pairwise_cons.1 hsort).1 _ h1;omega
     have h2:listed.getD e.on true≠false:=fun hf=>hnot ((hL e.on).2 ⟨by omega,hf⟩)
     have hes:e.on<listed.size:=by omega
     simp[hes]at h2 ⊢;exact h2
    rw[hr]at this;cases this
  ·obtain⟨h0,o,ho,hall⟩:=mem_ready.1 hi
   have his:i<ops.size:=(Array.getElem?_eq_some_iff.1 ho).1
   have hiL:i∈L:=(hL i).2 ⟨his,h0⟩
   obtain⟨L1,L2,rfl⟩:=List.append_of_mem hiL
   have dQ:=List.pairwise_append.1 hsort
   have hlt1:∀x∈L1,x<i:=fun x hx=>dQ.2.2 x hx i (by simp)
   have hgt2:∀x∈L2,i<x:=fun x hx=>(List.pairwise_cons.1 dQ.2.1).1 x hx
   rw[List.filterMap_append,List.filterMap_cons_some ho]at h
   have cO:=nN (P:=P) (ops:=ops) (S:=S) (st:=st) (Q:=Q) (Region.noSelect_spec hok.kU i o · · ho) (L1.filterMap (ops[·]?)) (fun x hx=>by
    obtain⟨k,hk,hox⟩:=List.mem_filterMap.1 hx
    have hkl:=((hL k).1 (by simp[hk])).2
    have hnl:¬listed.getD k false=true:=fun hf=>by rw[ve hf]at hkl;cases hkl
    refine⟨(Region.noSelect_spec hok.kU k x · · hox),?_⟩
    rcases hok.pair i o ho k (hlt1 k hk) x hox with⟨e,he,hb,rfl⟩|⟨hap,hor⟩
    ·exact absurd (hall e he hb) hnl
    ·refine⟨hap,?_⟩
     rcases hor with h1|h1|h1
     ·exact .inl h1
     ·exact .inr h1
     ·exact absurd (Au hok hdown i o ho hall k h1) hnl) a w hS h
   have hrest:∀a' w',S w'→aF P ops st S Q (L1.filterMap (ops[·]?)++L2.filterMap (ops[·]?)) a' w'→wpAny P .any ops Q' n (listed.setIfInBounds i true) a' w':=by
    intro a' w' hS' hh
    rw[←List.filterMap_append]at hh
    refine ih (L1++L2) (listed.setIfInBounds i true) a' w' ?_ ?_ (by simpa using hsz) ?_ ?_ hS' hh
    ·simp at hn ⊢;omega
    ·exact List.pairwise_append.2 ⟨dQ.1,(List.pairwise_cons.1 dQ.2.1).2,fun x hx y hy=>dQ.2.2 x hx y (by simp[hy])⟩
    ·intro j
     by_cases hji:j=i
     ·subst hji
      constructor
      ·intro hm
       exfalso
       rcases List.mem_append.1 hm with h1|h1
       ·have:=hlt1 _ h1;omega
       ·have:=hgt2 _ h1;omega
      ·rintro⟨_,hf⟩
       have:j<listed.size:=by omega
       simp[this]at hf
     ·rw[getD_set_ne true (Ne.symm hji),←hL j]
      simp[hji]
    ·intro k ok hk hkl e he hb
     by_cases hki:k=i
     ·subst hki
      rw[ho]at hk;cases hk
      exact getD_set_true (hall e he hb)
     ·rw[getD_set_ne false (Ne.symm hki)]at hkl
      exact getD_set_true (hdown k ok hk hkl e he hb)
   unfold wpOp
   simp only[ho]
   rw[bu]at cO
   split
   ·rename_i hw
    rw[if_pos hw]at cO
    refine .inl ?_
    by_cases hs:st o=true
    ·rw[if_pos hs]at cO
     obtain⟨v,hv,hh⟩:=cO
     unfold Oper.wp
     rw[hv w hS]
     exact hrest _ _ hS hh
    ·rw[if_neg hs]at cO
     exact tK (Oper.wp_mono (fun a' w' hh=>hrest a' w' hh.1 hh.2) cO)
   ·rename_i hw
    rw[if_neg hw]at cO
    exact hrest _ _ hS cO
theorem DN{id:Nat}{Q':Exit→Act→World→Prop}{a:Act}{w:World}{l:List Oper}(S:World→Prop)(st:Oper→Bool)(hm:P.follows .mixedOrders=true)(hB:lJ st l.toArray=true)
  (hS:S w.drew) (h:aF P l.toArray st S (fun a' w'=>Q' .normal a' w') l a w.drew):(Code.region id l.toArray true).wp P Q' a w:=by
 refine wp_region_any hm ?_
 have hfm:(List.range l.toArray.size).filterMap (l.toArray[·]?)=l:=by
  apply List.ext_getElem?
  intro i
  have:∀n,(List.range n).filterMap (fun i=>l.toArray[i]?)=l.take n:=by
   intro n
   induction n with
   |zero=>simp
   |succ n ih=>
    rw[List.range_succ,List.filterMap_append,ih]
    by_cases hn:n<l.length
    ·rw[List.take_succ_eq_append_getElem hn];simp[hn]
    ·simp[hn,List.take_of_length_le (show l.length≤n by omega),List.take_of_length_le (show l.length≤n+1 by omega)]
  rw[this];simp
 have:=DL (P:=P) (S:=S) (Q:=fun a' w'=>Q' .normal a' w') (Ar hB) (Q':=Q') (fun _ _ h=>h) l.toArray.size (List.range l.toArray.size) (Array.replicate l.toArray.size false) a w.drew
  (by simp) List.pairwise_lt_range (by simp) (by intro j;simp;intro h;simp[h]) (by intro k o hk hkl;exfalso;rw[Array.getD_eq_getD_getElem?,Array.getElem?_replicate]at hkl;split at hkl<;>simp at hkl) hS (by rw[hfm];exact h)
 exact this
def looks(o:Oper):Bool:=
 match o.op with
 | .move _ | .assign _ | .pick .. | .load .. | .binOp .. | .unOp .. | .makeInterface .. | .makeFunc .. | .slice .. | .fieldAddr .. | .field .. | .indexAddr .. | .index .. | .lookup .. | .extract .. | .build .. | .convert ..=>true
 | .call {callee:=.builtin b,..}=>match b with | .len | .cap | .min | .max=>true|_=>false
 |_=>false
theorem Tc(s:Sem Value)(w:World):(∃v w',((do pure (.value (←s)):Sem Next)).run P w=.ok (.value v) w')∨∃h w',((do pure (.value (←s)):Sem Next)).run P w=.halt h w':=by
 rw[Sem.run_bind]
 cases s.run P w with
 |ok v w'=>exact .inl ⟨v,w',by simp⟩
 |halt h w'=>exact .inr ⟨h,w',by simp⟩
theorem G8{o:Oper}(h:looks o=true)(ρ:Operand→Value)(w:World):(∃v w',(execOp ρ o).run P w=.ok (.value v) w')∨∃h w',(execOp ρ o).run P w=.halt h w':=by
 obtain⟨dst,op,type,pos,after,guard⟩:=o
 cases op<;>simp only[looks,Bool.false_eq_true]at h<;>simp only[execOp]
 case move x=>exact .inl ⟨_,w,rfl⟩
 case assign x=>exact .inl ⟨_,w,rfl⟩
 case pick c a b=>
  rw[Sem.run_bind]
  cases (asBool (ρ c)).run P w with
  |ok v w'=>exact .inl ⟨_,w',by simp;rfl⟩
  |halt h w'=>exact .inr ⟨h,w',by simp⟩
 case call c=>
  obtain⟨callee,args,ats⟩:=c
  cases callee with
  |value f=>simp at h
  |invoke r m=>simp at h
  |builtin b=>cases b<;>simp at h<;>exact Tc _ w
 all_goals exact Tc _ w
theorem bW{a:Act}{w:World}(h:Q a w):aF P ops st S Q [] a w:=h
theorem aP{o:Oper}{rest:List Oper}{a:Act}{w:World}(hw:Region.wanted o (yielded ops a.tmps)=false)(h:aF P ops st S Q rest (a.put o.dst undef) w):aF P ops st S Q (o::rest) a w:=by
 rw[bu,if_neg (by simp[hw])];exact h
theorem gI{o:Oper}{rest:List Oper}{a:Act}{w:World}(hw:Region.wanted o (yielded ops a.tmps)=true)(hs:looks o=true)
  (h:∀K:Act→Prop,(∀a',aF P ops looks S Q rest a' w→K a')→o.quiet P a S K):aF P ops looks S Q (o::rest) a w:=by
 rw[bu,if_pos hw,if_pos hs]
 obtain⟨v,hv,hh⟩:=h _ (fun _ x=>x)
 refine⟨v,fun w' hw'=>?_,hh⟩
 have:=hv w' hw'
 unfold Oper.quietAt at this
 rcases G8 (P:=P) hs a.eval w' with⟨u,w'',e⟩|⟨x,w'',e⟩
 ·rw[e]at this ⊢
  obtain⟨rfl,rfl⟩:=this
  rfl
 ·rw[e]at this
  exact this.elim
theorem jg{o:Oper}{rest:List Oper}{a:Act}{w:World}(hw:Region.wanted o (yielded ops a.tmps)=true)(hs:looks o=false)
  (h:∀K:Act→World→Prop,(∀a' w',S w'→aF P ops looks S Q rest a' w'→K a' w')→o.wp P a w K never):aF P ops looks S Q (o::rest) a w:=by
 rw[bu,if_pos hw,if_neg (by simp[hs])]
 exact h _ (fun _ _ x y=>⟨x,y⟩)
end
abbrev since(w:World):World→Prop:=fun w'=>∃x:Later w,w'=x.w
theorem Td{P:Program}{id:Nat}{Q':Exit→Act→World→Prop}{a:Act}{W w:World}{l:List Oper}(hW:Below W.heap.size W w)(hm:P.follows .mixedOrders=true)(hB:lJ looks l.toArray=true)
  (h:∀w1,Below W.heap.size W w1→aF P l.toArray looks (since W) (fun a' w'=>Q' .normal a' w') l a w1):(Code.region id l.toArray true).wp P Q' a w:=
 DN (since W) looks hm hB ⟨⟨w.drew,hW.drew⟩,rfl⟩ (h _ hW.drew)
theorem dC{W w:World}(h:Below W.heap.size W w):since W w:=⟨⟨w,h⟩,rfl⟩
theorem ag{W w w':World}(h:Below W.heap.size W w)(h':Below w.heap.size w w'):Below W.heap.size W w':=h.trans (h'.mono h.size)
theorem aC{W w:World}(h:Below W.heap.size W w)(o:Obj):Below W.heap.size W (w.alloc o):=h.alloc h.size o
end Go.WW
namespace Go.WW
structure Sl where
 a:Option Addr
 cap:Nat
structure aB where
 parts:List ByteArray
 aG:ByteArray
structure Key where
 profile:Int
 version:Int
 bytes:List UInt8
structure aW where
 version:Int
 keys:List Key
 fP:ByteArray
 jr:Int
 created:Int
structure Entry where
 name:aB
 aliases:List aB
 attrs:Int
 gU:Int
 keys:List aW
 aK:ByteArray
 mO:Int
 mP:Int
 mQ:Int
 mV:Int
 fails:Int
 iw:Int
 jw:Int
 targets:List aB
 bH:List aB
 history:List (List UInt8)
structure ah where
 name:ByteArray
 length:Int
 classes:Int
 distinct:Int
 history:Int
 jy:Int
 fD:Int
 fails:Int
 window:Int
 lock:Int
structure aI where
 parts:Sl
 aliases:Sl
 keys:Sl
 targets:Sl
 bH:Sl
 history:Sl
def ak(s:Sl)(p:aB):Array Value:=#[.slice s.a p.parts.length s.cap,.string p.aG]
theorem Lu(s:Sl)(p:aB):(ak s p).size=2:=by simp[ak]
theorem Tf(s:Sl)(p:aB):dD (ak s p)=true:=by simp[dD,ak,Value.oneCell']
theorem abr(s:Sl)(p:aB)(h:0<(ak s p).size):(ak s p)[0]'h=.slice s.a p.parts.length s.cap:=by simp[ak]
theorem G9(s:Sl)(p:aB):(ak s p)[1]?=some (.string p.aG):=by simp[ak]
theorem abt(s:Sl)(p:aB)(h:1<(ak s p).size):(ak s p)[1]'h=.string p.aG:=by simp[ak]
attribute [go_sem] Lu Tf abr G9 abt
def bY(s:Sl)(k:Key):Array Value:=#[.int .i64 k.profile,.int .i64 k.version,.slice s.a k.bytes.length s.cap]
theorem Ti(s:Sl)(k:Key):(bY s k).size=3:=by simp[bY]
theorem Tj(s:Sl)(k:Key):dD (bY s k)=true:=by simp[dD,bY,Value.oneCell']
theorem abu(s:Sl)(k:Key)(h:0<(bY s k).size):(bY s k)[0]'h=.int .i64 k.profile:=by simp[bY]
theorem abv(s:Sl)(k:Key)(h:1<(bY s k).size):(bY s k)[1]'h=.int .i64 k.version:=by simp[bY]
theorem Ha(s:Sl)(k:Key):(bY s k)[2]?=some (.slice s.a k.bytes.length s.cap):=by simp[bY]
theorem abw(s:Sl)(k:Key)(h:2<(bY s k).size):(bY s k)[2]'h=.slice s.a k.bytes.length s.cap:=by simp[bY]
attribute [go_sem] Ti Tj abu abv Ha abw
def aV(s:Sl)(k:aW):Array Value:=#[.int .i64 k.version,.slice s.a k.keys.length s.cap,.string k.fP,.int .i64 k.jr,.int .i64 k.created]
theorem Tm(s:Sl)(k:aW):(aV s k).size=5:=by simp[aV]
theorem Tn(s:Sl)(k:aW):dD (aV s k)=true:=by simp[dD,aV,Value.oneCell']
theorem DR(s:Sl)(k:aW):(aV s k)[0]?=some (.int .i64 k.version):=by simp[aV]
theorem abx(s:Sl)(k:aW)(h:0<(aV s k).size):(aV s k)[0]'h=.int .i64 k.version:=by simp[aV]
theorem DT(s:Sl)(k:aW):(aV s k)[1]?=some (.slice s.a k.keys.length s.cap):=by simp[aV]
theorem aby(s:Sl)(k:aW)(h:1<(aV s k).size):(aV s k)[1]'h=.slice s.a k.keys.length s.cap:=by simp[aV]
theorem abz(s:Sl)(k:aW)(h:2<(aV s k).size):(aV s k)[2]'h=.string k.fP:=by simp[aV]
theorem abA(s:Sl)(k:aW)(h:3<(aV s k).size):(aV s k)[3]'h=.int .i64 k.jr:=by simp[aV]
theorem LC(s:Sl)(k:aW):(aV s k)[4]?=some (.int .i64 k.created):=by simp[aV]
theorem abB(s:Sl)(k:aW)(h:4<(aV s k).size):(aV s k)[4]'h=.int .i64 k.created:=by simp[aV]
attribute [go_sem] Tm Tn DR abx DT aby abz abA LC abB
def ae(r:aI)(d:Entry):Array Value:=#[.slice r.parts.a d.name.parts.length r.parts.cap,.string d.name.aG,.slice r.aliases.a d.aliases.length r.aliases.cap,.int .u32 d.attrs,.int .i64 d.gU,.slice r.keys.a d.keys.length r.keys.cap,.string d.aK,.int .i64 d.mO,.int .i64 d.mP,.int .i64 d.mQ,.int .i64 d.mV,.int .i64 d.fails,.int .i64 d.iw,.int .i64 d.jw,.slice r.targets.a d.targets.length r.targets.cap,.slice r.bH.a d.bH.length r.bH.cap,.slice r.history.a d.history.length r.history.cap]
theorem He(r:aI)(d:Entry):(ae r d).size=17:=by simp[ae]
theorem Tq(r:aI)(d:Entry):dD (ae r d)=true:=by simp[dD,ae,Value.oneCell']
theorem Tt(r:aI)(d:Entry):(ae r d)[0]?=some (.slice r.parts.a d.name.parts.length r.parts.cap):=by simp[ae]
theorem abC(r:aI)(d:Entry)(h:0<(ae r d).size):(ae r d)[0]'h=.slice r.parts.a d.name.parts.length r.parts.cap:=by simp[ae]
theorem abD(r:aI)(d:Entry)(h:1<(ae r d).size):(ae r d)[1]'h=.string d.name.aG:=by simp[ae]
theorem Tu(r:aI)(d:Entry):(ae r d)[2]?=some (.slice r.aliases.a d.aliases.length r.aliases.cap):=by simp[ae]
theorem abE(r:aI)(d:Entry)(h:2<(ae r d).size):(ae r d)[2]'h=.slice r.aliases.a d.aliases.length r.aliases.cap:=by simp[ae]
theorem abG(r:aI)(d:Entry)(h:3<(ae r d).size):(ae r d)[3]'h=.int .u32 d.attrs:=by simp[ae]
theorem abH(r:aI)(d:Entry)(h:4<(ae r d).size):(ae r d)[4]'h=.int .i64 d.gU:=by simp[ae]
theorem DU(r:aI)(d:Entry):(ae r d)[5]?=some (.slice r.keys.a d.keys.length r.keys.cap):=by simp[ae]
theorem abI(r:aI)(d:Entry)(h:5<(ae r d).size):(ae r d)[5]'h=.slice r.keys.a d.keys.length r.keys.cap:=by simp[ae]
theorem LG(r:aI)(d:Entry):(ae r d)[6]?=some (.string d.aK):=by simp[ae]
theorem abJ(r:aI)(d:Entry)(h:6<(ae r d).size):(ae r d)[6]'h=.string d.aK:=by simp[ae]
theorem abK(r:aI)(d:Entry)(h:7<(ae r d).size):(ae r d)[7]'h=.int .i64 d.mO:=by simp[ae]
theorem abL(r:aI)(d:Entry)(h:8<(ae r d).size):(ae r d)[8]'h=.int .i64 d.mP:=by simp[ae]
theorem abM(r:aI)(d:Entry)(h:9<(ae r d).size):(ae r d)[9]'h=.int .i64 d.mQ:=by simp[ae]
theorem abN(r:aI)(d:Entry)(h:10<(ae r d).size):(ae r d)[10]'h=.int .i64 d.mV:=by simp[ae]
theorem Tv(r:aI)(d:Entry):(ae r d)[11]?=some (.int .i64 d.fails):=by simp[ae]
theorem abO(r:aI)(d:Entry)(h:11<(ae r d).size):(ae r d)[11]'h=.int .i64 d.fails:=by simp[ae]
theorem Tz(r:aI)(d:Entry):(ae r d)[12]?=some (.int .i64 d.iw):=by simp[ae]
theorem abP(r:aI)(d:Entry)(h:12<(ae r d).size):(ae r d)[12]'h=.int .i64 d.iw:=by simp[ae]
theorem TA(r:aI)(d:Entry):(ae r d)[13]?=some (.int .i64 d.jw):=by simp[ae]
theorem abQ(r:aI)(d:Entry)(h:13<(ae r d).size):(ae r d)[13]'h=.int .i64 d.jw:=by simp[ae]
theorem abR(r:aI)(d:Entry)(h:14<(ae r d).size):(ae r d)[14]'h=.slice r.targets.a d.targets.length r.targets.cap:=by simp[ae]
theorem abS(r:aI)(d:Entry)(h:15<(ae r d).size):(ae r d)[15]'h=.slice r.bH.a d.bH.length r.bH.cap:=by simp[ae]
theorem abT(r:aI)(d:Entry)(h:16<(ae r d).size):(ae r d)[16]'h=.slice r.history.a d.history.length r.history.cap:=by simp[ae]
theorem abU(r:aI)(d:Entry)(v:Int):(ae r d).setIfInBounds 4 (.int .i64 v)=ae r {d with gU:=v}:=by kernel_rfl
theorem abV(r:aI)(d:Entry)(v:Int):(ae r d).setIfInBounds 7 (.int .i64 v)=ae r {d with mO:=v}:=by kernel_rfl
theorem abW(r:aI)(d:Entry)(v:Int):(ae r d).setIfInBounds 8 (.int .i64 v)=ae r {d with mP:=v}:=by kernel_rfl
theorem abX(r:aI)(d:Entry)(v:Int):(ae r d).setIfInBounds 9 (.int .i64 v)=ae r {d with mQ:=v}:=by kernel_rfl
theorem abY(r:aI)(d:Entry)(v:Int):(ae r d).setIfInBounds 10 (.int .i64 v)=ae r {d with mV:=v}:=by kernel_rfl
theorem abZ(r:aI)(d:Entry)(v:Int):(ae r d).setIfInBounds 11 (.int .i64 v)=ae r {d with fails:=v}:=by kernel_rfl
theorem ab1(r:aI)(d:Entry)(v:Int):(ae r d).setIfInBounds 12 (.int .i64 v)=ae r {d with iw:=v}:=by kernel_rfl
theorem ab2(r:aI)(d:Entry)(v:Int):(ae r d).setIfInBounds 13 (.int .i64 v)=ae r {d with jw:=v}:=by kernel_rfl
theorem LH(r:aI)(d:Entry):eQ (ae r d) 0 2=some (ak r.parts d.name):=by kernel_rfl
attribute [go_sem] He Tq Tt abC abD Tu abE abG abH DU abI LG abJ abK abL abM abN Tv abO Tz abP TA abQ abR abS abT abU abV abW abX abY abZ ab1 ab2 LH
def az(p:ah):Array Value:=#[.string p.name,.int .i64 p.length,.int .i64 p.classes,.int .i64 p.distinct,.int .i64 p.history,.int .i64 p.jy,.int .i64 p.fD,.int .i64 p.fails,.int .i64 p.window,.int .i64 p.lock]
theorem wY(p:ah):(az p).size=10:=by simp[az]
theorem TB(p:ah):dD (az p)=true:=by simp[dD,az,Value.oneCell']
theorem ab3(p:ah)(h:0<(az p).size):(az p)[0]'h=.string p.name:=by simp[az]
theorem ab4(p:ah)(h:1<(az p).size):(az p)[1]'h=.int .i64 p.length:=by simp[az]
theorem ab5(p:ah)(h:2<(az p).size):(az p)[2]'h=.int .i64 p.classes:=by simp[az]
theorem ab6(p:ah)(h:3<(az p).size):(az p)[3]'h=.int .i64 p.distinct:=by simp[az]
theorem ab7(p:ah)(h:4<(az p).size):(az p)[4]'h=.int .i64 p.history:=by simp[az]
theorem ab8(p:ah)(h:5<(az p).size):(az p)[5]'h=.int .i64 p.jy:=by simp[az]
theorem ab9(p:ah)(h:6<(az p).size):(az p)[6]'h=.int .i64 p.fD:=by simp[az]
theorem aca(p:ah)(h:7<(az p).size):(az p)[7]'h=.int .i64 p.fails:=by simp[az]
theorem acb(p:ah)(h:8<(az p).size):(az p)[8]'h=.int .i64 p.window:=by simp[az]
theorem acd(p:ah)(h:9<(az p).size):(az p)[9]'h=.int .i64 p.lock:=by simp[az]
attribute [go_sem] wY TB ab3 ab4 ab5 ab6 ab7 ab8 ab9 aca acb acd
def jA(r:aI)(d:Entry)(p:ah):Array Value:=#[.slice r.parts.a d.name.parts.length r.parts.cap,.string d.name.aG,.slice r.aliases.a d.aliases.length r.aliases.cap,.int .u32 d.attrs,.int .i64 d.gU,.slice r.keys.a d.keys.length r.keys.cap,.string d.aK,.int .i64 d.mO,.int .i64 d.mP,.int .i64 d.mQ,.int .i64 d.mV,.int .i64 d.fails,.int .i64 d.iw,.int .i64 d.jw,.slice r.targets.a d.targets.length r.targets.cap,.slice r.bH.a d.bH.length r.bH.cap,.slice r.history.a d.history.length r.history.cap,.string p.name,.int .i64 p.length,.int .i64 p.classes,.int .i64 p.distinct,.int .i64 p.history,.int .i64 p.jy,.int .i64 p.fD,.int .i64 p.fails,.int .i64 p.window,.int .i64 p.lock]
theorem ace(r:aI)(d:Entry)(p:ah)(v:Int):(jA r d p).setIfInBounds 4 (.int .i64 v)=jA r {d with gU:=v} p:=by kernel_rfl
theorem acf(r:aI)(d:Entry)(p:ah)(v:Int):(jA r d p).setIfInBounds 7 (.int .i64 v)=jA r {d with mO:=v} p:=by kernel_rfl
theorem acg(r:aI)(d:Entry)(p:ah)(v:Int):(jA r d p).setIfInBounds 8 (.int .i64 v)=jA r {d with mP:=v} p:=by kernel_rfl
theorem ach(r:aI)(d:Entry)(p:ah)(v:Int):(jA r d p).setIfInBounds 9 (.int .i64 v)=jA r {d with mQ:=v} p:=by kernel_rfl
theorem aci(r:aI)(d:Entry)(p:ah)(v:Int):(jA r d p).setIfInBounds 10 (.int .i64 v)=jA r {d with mV:=v} p:=by kernel_rfl
theorem acj(r:aI)(d:Entry)(p:ah)(v:Int):(jA r d p).setIfInBounds 11 (.int .i64 v)=jA r {d with fails:=v} p:=by kernel_rfl
theorem ack(r:aI)(d:Entry)(p:ah)(v:Int):(jA r d p).setIfInBounds 12 (.int .i64 v)=jA r {d with iw:=v} p:=by kernel_rfl
theorem acm(r:aI)(d:Entry)(p:ah)(v:Int):(jA r d p).setIfInBounds 13 (.int .i64 v)=jA r {d with jw:=v} p:=by kernel_rfl
theorem acn(r:aI)(d:Entry)(p:ah):eQ (jA r d p) 0 17=some (ae r d):=by kernel_rfl
theorem aco(r:aI)(d:Entry)(p:ah):eQ (jA r d p) 17 10=some (az p):=by kernel_rfl
theorem acp(r:aI)(d:Entry)(p:ah):eQ (jA r d p) 0 2=some (ak r.parts d.name):=by kernel_rfl
theorem acr(r:aI)(d:Entry)(p:ah):(jA r d p).extract 0 17=ae r d:=by kernel_rfl
theorem acs(r:aI)(d:Entry)(p:ah):(jA r d p).extract 17 27=az p:=by kernel_rfl
attribute [go_sem] ace acf acg ach aci acj ack acm acn aco acp acr acs
end Go.WW
namespace Go.WW
open Go.RowKit
def lim:Nat:=4294967000
section
variable (w:World)
def aO(k:Nat)(a:Option Addr)(n:Nat)(R:Nat→Array Value→Prop):Prop:=
 n≤lim∧∀i,i<n→∃b o cs,a=some ⟨b,o,none⟩∧row? w b (o+i*k) k=some cs∧R i cs
def dJ(a:Option Addr)(n:Nat)(R:Nat→Value→Prop):Prop:=
 n≤lim∧∀i,i<n→∃b o v,a=some ⟨b,o,none⟩∧w.cell? ⟨b,o+i,none⟩=some v∧R i v
def iU(a:Option Addr)(l:List ByteArray):Prop:=dJ w a l.length fun i v=>∃s,l[i]?=some s∧v=.string s∧s.size≤lim
def BytesAt(a:Option Addr)(l:List UInt8):Prop:=dJ w a l.length fun i v=>∃c,l[i]?=some c∧v=.int .u8 c.toNat
def pW(a:Option Addr)(l:List Int):Prop:=dJ w a l.length fun i v=>∃c,l[i]?=some c∧v=.int .i64 c
def qN(a:Option Addr)(l:List Bool):Prop:=dJ w a l.length fun i v=>∃c,l[i]?=some c∧v=.bool c
def bg(s:Sl)(p:aB):Prop:=iU w s.a p.parts∧p.aG.size≤lim
def eG(a:Option Addr)(l:List aB):Prop:=aO w 2 a l.length fun i cs=>∃p s,l[i]?=some p∧cs=ak s p∧bg w s p
def kV(s:Sl)(k:Key):Prop:=BytesAt w s.a k.bytes
def jR(a:Option Addr)(l:List Key):Prop:=aO w 3 a l.length fun i cs=>∃k s,l[i]?=some k∧cs=bY s k∧kV w s k
def jG(s:Sl)(k:aW):Prop:=jR w s.a k.keys∧k.fP.size≤lim
def jZ(a:Option Addr)(l:List aW):Prop:=aO w 5 a l.length fun i cs=>∃k s,l[i]?=some k∧cs=aV s k∧jG w s k
def lL(a:Option Addr)(l:List (List UInt8)):Prop:=dJ w a l.length fun i v=>∃x,∃s:Sl,l[i]?=some x∧v=.slice s.a x.length s.cap∧BytesAt w s.a x
structure bz(r:aI)(d:Entry):Prop where
 name:bg w r.parts d.name
 aliases:eG w r.aliases.a d.aliases
 keys:jZ w r.keys.a d.keys
 targets:eG w r.targets.a d.targets
 bH:eG w r.bH.a d.bH
 history:lL w r.history.a d.history
 aK:d.aK.size≤lim
 attrs:0≤d.attrs∧d.attrs≤4294967295
end
section
variable {w w':World} (h:Below w.heap.size w w')
include h
theorem aO.later{k:Nat}{a:Option Addr}{n:Nat}{R R':Nat→Array Value→Prop}(hR:∀i cs,R i cs→R' i cs)(x:aO w k a n R):aO w' k a n R':=by
 refine⟨x.1,fun i hi=>?_⟩
 obtain⟨b,o,cs,ha,hr,hR1⟩:=x.2 i hi
 exact⟨b,o,cs,ha,by rw[fO (h.block b (gq hr))];exact hr,hR i cs hR1⟩
theorem dJ.later{a:Option Addr}{n:Nat}{R R':Nat→Value→Prop}(hR:∀i cs,R i cs→R' i cs)(x:dJ w a n R):dJ w' a n R':=by
 refine⟨x.1,fun i hi=>?_⟩
 obtain⟨b,o,cs,ha,hr,hR1⟩:=x.2 i hi
 exact⟨b,o,cs,ha,by rw[h.cell (World.block_lt_of_cell? w _ hr)];exact hr,hR i cs hR1⟩
theorem iU.later{a:Option Addr}{l:List ByteArray}(x:iU w a l):iU w' a l:=dJ.later h (fun _ _ y=>y) x
theorem BytesAt.later{a:Option Addr}{l:List UInt8}(x:BytesAt w a l):BytesAt w' a l:=dJ.later h (fun _ _ y=>y) x
theorem pW.later{a:Option Addr}{l:List Int}(x:pW w a l):pW w' a l:=dJ.later h (fun _ _ y=>y) x
theorem qN.later{a:Option Addr}{l:List Bool}(x:qN w a l):qN w' a l:=dJ.later h (fun _ _ y=>y) x
theorem bg.later{s:Sl}{p:aB}(x:bg w s p):bg w' s p:=⟨x.1.later h,x.2⟩
theorem eG.later{a:Option Addr}{l:List aB}(x:eG w a l):eG w' a l:=aO.later h (fun _ _ ⟨p,s,y1,y2,y3⟩=>⟨p,s,y1,y2,y3.later h⟩) x
theorem kV.later{s:Sl}{k:Key}(x:kV w s k):kV w' s k:=BytesAt.later h x
theorem jR.later{a:Option Addr}{l:List Key}(x:jR w a l):jR w' a l:=aO.later h (fun _ _ ⟨p,s,y1,y2,y3⟩=>⟨p,s,y1,y2,y3.later h⟩) x
theorem jG.later{s:Sl}{k:aW}(x:jG w s k):jG w' s k:=⟨x.1.later h,x.2⟩
theorem jZ.later{a:Option Addr}{l:List aW}(x:jZ w a l):jZ w' a l:=aO.later h (fun _ _ ⟨p,s,y1,y2,y3⟩=>⟨p,s,y1,y2,y3.later h⟩) x
theorem lL.later{a:Option Addr}{l:List (List UInt8)}(x:lL w a l):lL w' a l:=dJ.later h (fun _ _ ⟨p,s,y1,y2,y3⟩=>⟨p,s,y1,y2,y3.later h⟩) x
theorem bz.later{r:aI}{d:Entry}(x:bz w r d):bz w' r d:=
 ⟨x.name.later h,x.aliases.later h,x.keys.later h,x.targets.later h,x.bH.later h,x.history.later h,x.aK,x.attrs⟩
end
section
variable {w:World} {a:Option Addr}
theorem iU.get{l:List ByteArray}(x:iU w a l)(i:Nat)(h:i<l.length):∃b o,a=some ⟨b,o,none⟩∧w.cell? ⟨b,o+i,none⟩=some (.string l[i])∧l[i].size≤lim:=by
 obtain⟨b,o,v,h1,h2,s,h3,rfl,h4⟩:=x.2 i h
 rw[List.getElem?_eq_getElem h]at h3;cases h3
 exact⟨b,o,h1,h2,h4⟩
theorem BytesAt.get{l:List UInt8}(x:BytesAt w a l)(i:Nat)(h:i<l.length):∃b o,a=some ⟨b,o,none⟩∧w.cell? ⟨b,o+i,none⟩=some (.int .u8 l[i].toNat):=by
 obtain⟨b,o,v,h1,h2,s,h3,rfl⟩:=x.2 i h
 rw[List.getElem?_eq_getElem h]at h3;cases h3
 exact⟨b,o,h1,h2⟩
theorem pW.get{l:List Int}(x:pW w a l)(i:Nat)(h:i<l.length):∃b o,a=some ⟨b,o,none⟩∧w.cell? ⟨b,o+i,none⟩=some (.int .i64 l[i]):=by
 obtain⟨b,o,v,h1,h2,s,h3,rfl⟩:=x.2 i h
 rw[List.getElem?_eq_getElem h]at h3;cases h3
 exact⟨b,o,h1,h2⟩
theorem qN.get{l:List Bool}(x:qN w a l)(i:Nat)(h:i<l.length):∃b o,a=some ⟨b,o,none⟩∧w.cell? ⟨b,o+i,none⟩=some (.bool l[i]):=by
 obtain⟨b,o,v,h1,h2,s,h3,rfl⟩:=x.2 i h
 rw[List.getElem?_eq_getElem h]at h3;cases h3
 exact⟨b,o,h1,h2⟩
theorem eG.get{l:List aB}(x:eG w a l)(i:Nat)(h:i<l.length):∃b o s,a=some ⟨b,o,none⟩∧row? w b (o+i*2) 2=some (ak s l[i])∧bg w s l[i]:=by
 obtain⟨b,o,v,h1,h2,p,s,h3,rfl,h4⟩:=x.2 i h
 rw[List.getElem?_eq_getElem h]at h3;cases h3
 exact⟨b,o,s,h1,h2,h4⟩
theorem jR.get{l:List Key}(x:jR w a l)(i:Nat)(h:i<l.length):∃b o s,a=some ⟨b,o,none⟩∧row? w b (o+i*3) 3=some (bY s l[i])∧kV w s l[i]:=by
 obtain⟨b,o,v,h1,h2,p,s,h3,rfl,h4⟩:=x.2 i h
 rw[List.getElem?_eq_getElem h]at h3;cases h3
 exact⟨b,o,s,h1,h2,h4⟩
theorem jZ.get{l:List aW}(x:jZ w a l)(i:Nat)(h:i<l.length):∃b o s,a=some ⟨b,o,none⟩∧row? w b (o+i*5) 5=some (aV s l[i])∧jG w s l[i]:=by
 obtain⟨b,o,v,h1,h2,p,s,h3,rfl,h4⟩:=x.2 i h
 rw[List.getElem?_eq_getElem h]at h3;cases h3
 exact⟨b,o,s,h1,h2,h4⟩
theorem lL.get{l:List (List UInt8)}(x:lL w a l)(i:Nat)(h:i<l.length):∃b o,∃s:Sl,a=some ⟨b,o,none⟩∧w.cell? ⟨b,o+i,none⟩=some (.slice s.a l[i].length s.cap)∧BytesAt w s.a l[i]:=by
 obtain⟨b,o,v,h1,h2,p,s,h3,rfl,h4⟩:=x.2 i h
 rw[List.getElem?_eq_getElem h]at h3;cases h3
 exact⟨b,o,s,h1,h2,h4⟩
end
theorem aO.addr{w:World}{k n:Nat}{a:Option Addr}{R:Nat→Array Value→Prop}(x:aO w k a n R):n=0∨∃b o,a=some ⟨b,o,none⟩∧b<w.heap.size:=by
 rcases Nat.eq_zero_or_pos n with h|h
 ·exact .inl h
 ·obtain⟨b,o,cs,ha,hr,_⟩:=x.2 0 h
  exact .inr ⟨b,o,ha,gq hr⟩
theorem dJ.addr{w:World}{n:Nat}{a:Option Addr}{R:Nat→Value→Prop}(x:dJ w a n R):n=0∨∃b o,a=some ⟨b,o,none⟩∧b<w.heap.size:=by
 rcases Nat.eq_zero_or_pos n with h|h
 ·exact .inl h
 ·obtain⟨b,o,v,ha,hr,_⟩:=x.2 0 h
  exact .inr ⟨b,o,ha,World.block_lt_of_cell? w _ hr⟩
theorem iU.at{w:World}{b o:Nat}{l:List ByteArray}(x:iU w (some ⟨b,o,none⟩) l)(i:Nat)(h:i<l.length):w.cell? ⟨b,o+i,none⟩=some (.string l[i])∧l[i].size≤lim:=by
 obtain⟨b',o',ha,hc,hs⟩:=x.get i h;cases ha;exact⟨hc,hs⟩
theorem BytesAt.at{w:World}{b o:Nat}{l:List UInt8}(x:BytesAt w (some ⟨b,o,none⟩) l)(i:Nat)(h:i<l.length):w.cell? ⟨b,o+i,none⟩=some (.int .u8 l[i].toNat):=by
 obtain⟨b',o',ha,hc⟩:=x.get i h;cases ha;exact hc
theorem pW.at{w:World}{b o:Nat}{l:List Int}(x:pW w (some ⟨b,o,none⟩) l)(i:Nat)(h:i<l.length):w.cell? ⟨b,o+i,none⟩=some (.int .i64 l[i]):=by
 obtain⟨b',o',ha,hc⟩:=x.get i h;cases ha;exact hc
theorem qN.at{w:World}{b o:Nat}{l:List Bool}(x:qN w (some ⟨b,o,none⟩) l)(i:Nat)(h:i<l.length):w.cell? ⟨b,o+i,none⟩=some (.bool l[i]):=by
 obtain⟨b',o',ha,hc⟩:=x.get i h;cases ha;exact hc
theorem eG.at{w:World}{b o:Nat}{l:List aB}(x:eG w (some ⟨b,o,none⟩) l)(i:Nat)(h:i<l.length):∃s,row? w b (o+i*2) 2=some (ak s l[i])∧bg w s l[i]:=by
 obtain⟨b',o',s,ha,hc⟩:=x.get i h;cases ha;exact⟨s,hc⟩
theorem jR.at{w:World}{b o:Nat}{l:List Key}(x:jR w (some ⟨b,o,none⟩) l)(i:Nat)(h:i<l.length):∃s,row? w b (o+i*3) 3=some (bY s l[i])∧kV w s l[i]:=by
 obtain⟨b',o',s,ha,hc⟩:=x.get i h;cases ha;exact⟨s,hc⟩
theorem jZ.at{w:World}{b o:Nat}{l:List aW}(x:jZ w (some ⟨b,o,none⟩) l)(i:Nat)(h:i<l.length):∃s,row? w b (o+i*5) 5=some (aV s l[i])∧jG w s l[i]:=by
 obtain⟨b',o',s,ha,hc⟩:=x.get i h;cases ha;exact⟨s,hc⟩
theorem lL.at{w:World}{b o:Nat}{l:List (List UInt8)}(x:lL w (some ⟨b,o,none⟩) l)(i:Nat)(h:i<l.length):∃s:Sl,w.cell? ⟨b,o+i,none⟩=some (.slice s.a l[i].length s.cap)∧BytesAt w s.a l[i]:=by
 obtain⟨b',o',s,ha,hc⟩:=x.get i h;cases ha;exact⟨s,hc⟩
end Go.WW
namespace Go.Proofs.YtaghcadlgbnbdaaGreatDoor
open Go.RowKit Go.WW
def mW(T:TypeId)(parts:Array (Nat×Value)):Sem Next:=do pure (.value (←Instr.build T parts))
theorem acu(w:World)(b o:Nat):(jq 25 (.pointer (some ⟨b,o,none⟩))).run Tryz.prog w=qM Tryz.prog 25 w b o (row? w b o 2):=uZ Tryz.underlying25 rfl (by kernel_rfl) w b o
theorem acv(ρ:Operand→Value)(dst:Option Tmp)(x:Operand)(ty:TypeId)(pos:String)(after:Array Edge)(guard:Option (Nat×Bool)):execOp ρ {dst,op:=.load 25 x,type:=ty,pos,after,guard}=jq 25 (ρ x):=rfl
attribute [go_sem] acu
attribute [go_sem ↓] acv
theorem acw(w:World)(b o:Nat):(jq 64 (.pointer (some ⟨b,o,none⟩))).run Tryz.prog w=qM Tryz.prog 64 w b o (row? w b o 3):=uZ Tryz.underlying64 rfl (by kernel_rfl) w b o
theorem acx(ρ:Operand→Value)(dst:Option Tmp)(x:Operand)(ty:TypeId)(pos:String)(after:Array Edge)(guard:Option (Nat×Bool)):execOp ρ {dst,op:=.load 64 x,type:=ty,pos,after,guard}=jq 64 (ρ x):=rfl
attribute [go_sem] acw
attribute [go_sem ↓] acx
theorem acy(w:World)(b o:Nat):(jq 61 (.pointer (some ⟨b,o,none⟩))).run Tryz.prog w=qM Tryz.prog 61 w b o (row? w b o 5):=uZ Tryz.underlying61 rfl (by kernel_rfl) w b o
theorem acz(ρ:Operand→Value)(dst:Option Tmp)(x:Operand)(ty:TypeId)(pos:String)(after:Array Edge)(guard:Option (Nat×Bool)):execOp ρ {dst,op:=.load 61 x,type:=ty,pos,after,guard}=jq 61 (ρ x):=rfl
attribute [go_sem] acy
attribute [go_sem ↓] acz
theorem acA(w:World)(b o:Nat):(jq 32 (.pointer (some ⟨b,o,none⟩))).run Tryz.prog w=qM Tryz.prog 32 w b o (row? w b o 17):=uZ Tryz.underlying32 rfl (by kernel_rfl) w b o
theorem acB(ρ:Operand→Value)(dst:Option Tmp)(x:Operand)(ty:TypeId)(pos:String)(after:Array Edge)(guard:Option (Nat×Bool)):execOp ρ {dst,op:=.load 32 x,type:=ty,pos,after,guard}=jq 32 (ρ x):=rfl
attribute [go_sem] acA
attribute [go_sem ↓] acB
theorem acC(w:World)(b o:Nat):(jq 35 (.pointer (some ⟨b,o,none⟩))).run Tryz.prog w=qM Tryz.prog 35 w b o (row? w b o 10):=uZ Tryz.underlying35 rfl (by kernel_rfl) w b o
theorem acD(ρ:Operand→Value)(dst:Option Tmp)(x:Operand)(ty:TypeId)(pos:String)(after:Array Edge)(guard:Option (Nat×Bool)):execOp ρ {dst,op:=.load 35 x,type:=ty,pos,after,guard}=jq 35 (ρ x):=rfl
attribute [go_sem] acC
attribute [go_sem ↓] acD
theorem acE(w:World)(b o:Nat)(cs:Array Value)(hn:cs.size=2)(h1:dD cs=true):(jQ 25 (.pointer (some ⟨b,o,none⟩)) (.agg cs)).run Tryz.prog w=tH Tryz.prog 25 w b o cs (aJ w b o 2):=wX (by kernel_rfl) w b o cs hn h1
theorem acF(ρ:Operand→Value)(dst:Option Tmp)(x y:Operand)(ty:TypeId)(pos:String)(after:Array Edge)(guard:Option (Nat×Bool)):execOp ρ {dst,op:=.store 25 x y,type:=ty,pos,after,guard}=jQ 25 (ρ x) (ρ y):=rfl
attribute [go_sem] acE
attribute [go_sem ↓] acF
theorem acG(w:World)(b o:Nat)(cs:Array Value)(hn:cs.size=3)(h1:dD cs=true):(jQ 64 (.pointer (some ⟨b,o,none⟩)) (.agg cs)).run Tryz.prog w=tH Tryz.prog 64 w b o cs (aJ w b o 3):=wX (by kernel_rfl) w b o cs hn h1
theorem acH(ρ:Operand→Value)(dst:Option Tmp)(x y:Operand)(ty:TypeId)(pos:String)(after:Array Edge)(guard:Option (Nat×Bool)):execOp ρ {dst,op:=.store 64 x y,type:=ty,pos,after,guard}=jQ 64 (ρ x) (ρ y):=rfl
attribute [go_sem] acG
attribute [go_sem ↓] acH
theorem acI(w:World)(b o:Nat)(cs:Array Value)(hn:cs.size=5)(h1:dD cs=true):(jQ 61 (.pointer (some ⟨b,o,none⟩)) (.agg cs)).run Tryz.prog w=tH Tryz.prog 61 w b o cs (aJ w b o 5):=wX (by kernel_rfl) w b o cs hn h1
theorem acJ(ρ:Operand→Value)(dst:Option Tmp)(x y:Operand)(ty:TypeId)(pos:String)(after:Array Edge)(guard:Option (Nat×Bool)):execOp ρ {dst,op:=.store 61 x y,type:=ty,pos,after,guard}=jQ 61 (ρ x) (ρ y):=rfl
attribute [go_sem] acI
attribute [go_sem ↓] acJ
theorem acK(w:World)(b o:Nat)(cs:Array Value)(hn:cs.size=17)(h1:dD cs=true):(jQ 32 (.pointer (some ⟨b,o,none⟩)) (.agg cs)).run Tryz.prog w=tH Tryz.prog 32 w b o cs (aJ w b o 17):=wX (by kernel_rfl) w b o cs hn h1
theorem acL(ρ:Operand→Value)(dst:Option Tmp)(x y:Operand)(ty:TypeId)(pos:String)(after:Array Edge)(guard:Option (Nat×Bool)):execOp ρ {dst,op:=.store 32 x y,type:=ty,pos,after,guard}=jQ 32 (ρ x) (ρ y):=rfl
attribute [go_sem] acK
attribute [go_sem ↓] acL
theorem acM(w:World)(b o:Nat)(cs:Array Value)(hn:cs.size=10)(h1:dD cs=true):(jQ 35 (.pointer (some ⟨b,o,none⟩)) (.agg cs)).run Tryz.prog w=tH Tryz.prog 35 w b o cs (aJ w b o 10):=wX (by kernel_rfl) w b o cs hn h1
theorem acN(ρ:Operand→Value)(dst:Option Tmp)(x y:Operand)(ty:TypeId)(pos:String)(after:Array Edge)(guard:Option (Nat×Bool)):execOp ρ {dst,op:=.store 35 x y,type:=ty,pos,after,guard}=jQ 35 (ρ x) (ρ y):=rfl
attribute [go_sem] acM
attribute [go_sem ↓] acN
end Go.Proofs.YtaghcadlgbnbdaaGreatDoor
namespace Go.WW
open Go.RowKit
def flat(rows:List (Array Value)):List Value:=rows.flatMap (·.toList)
theorem LJ(r:Array Value)(rows:List (Array Value)):flat (r::rows)=r.toList++flat rows:=rfl
theorem acO(a b:List (Array Value)):flat (a++b)=flat a++flat b:=by simp[flat]
theorem flat_length{k:Nat}:∀{rows:List (Array Value)},(∀r∈rows,r.size=k)→(flat rows).length=rows.length*k
 | [],_=>by simp[flat]
 |r::rows,h=>by
  rw[LJ,List.length_append,flat_length (fun x hx=>h x (by simp[hx])),List.length_cons,Nat.succ_mul]
  have:=h r (by simp)
  simp[this];omega
theorem flat_get{k:Nat}:∀{rows:List (Array Value)} (_:∀r∈rows,r.size=k) (i j:Nat) (hi:i<rows.length) (_:j<k),(flat rows)[i*k+j]?=rows[i][j]?
 | [],_,i,j,hi,_=>by simp at hi
 |r::rows,h,0,j,_,hj=>by
  have:=h r (by simp)
  rw[LJ,Nat.zero_mul,Nat.zero_add,List.getElem?_append_left (by simp;omega)]
  simp
 |r::rows,h,i+1,j,hi,hj=>by
  have hr:=h r (by simp)
  rw[LJ,List.getElem?_append_right (by simp[Nat.succ_mul];omega)]
  have e:(i+1)*k+j-r.toList.length=i*k+j:=by simp[Nat.succ_mul];omega
  rw[e,flat_get (fun x hx=>h x (by simp[hx])) i j (by simpa using hi) hj]
  simp
structure Own(w:World)(base:Nat)(e:TypeId)(k:Nat)(s:Sl)(rows:List (Array Value)):Prop where
 own:w.ownsRow base e k (.slice s.a rows.length s.cap) rows.length (flat rows)
 size:∀r∈rows,r.size=k
def Sl.blk(s:Sl):Option Nat:=s.a.map (·.block)
theorem Aw(s:Sl)(n:Nat):Value.ownBlock (.slice s.a n s.cap)=s.blk:=by
 unfold Sl.blk Value.ownBlock;cases s.a<;>rfl
theorem Own.nil(w:World)(base:Nat)(e:TypeId)(k:Nat):Own w base e k ⟨none,0⟩ []:=⟨World.ownsRow_nil w base e k,by simp⟩
theorem Own.base{w:World}{base:Nat}{e:TypeId}{k:Nat}{s:Sl}{rows:List (Array Value)}(h:Own w base e k s rows){g:Nat}(hg:s.blk=some g):base≤g∧g<w.heap.size:=
 h.own.lt g (by rw[Aw];exact hg)
theorem Own.kept{w w':World}{base:Nat}{e:TypeId}{k:Nat}{s:Sl}{rows:List (Array Value)}(h:Own w base e k s rows)(hb:∀g,s.blk=some g→w'.heap[g]?=w.heap[g]?):Own w' base e k s rows:=by
 refine⟨⟨h.own.1,?_⟩,h.size⟩
 rcases h.own.2 with hn|⟨g,cap,cur,hv,h1,hg,rest⟩
 ·exact .inl hn
 ·refine .inr ⟨g,cap,cur,hv,h1,?_,rest⟩
  have ha:s.a=some ⟨g,0,none⟩:=by injection hv
  rw[hb g (by simp[Sl.blk,ha])];exact hg
theorem Own.row{w:World}{base:Nat}{e:TypeId}{k:Nat}{s:Sl}{rows:List (Array Value)}(h:Own w base e k s rows)(i:Nat)(hi:i<rows.length) :
  ∃g,s.a=some ⟨g,0,none⟩∧s.blk=some g∧row? w g (0+i*k) k=some rows[i]:=by
 rcases h.own.2 with⟨_,hn⟩|⟨g,cap,cur,hv,h1,hg,hle,_,hsz,htake⟩
 ·omega
 ·have ha:s.a=some ⟨g,0,none⟩:=by injection hv
  refine⟨g,ha,by simp[Sl.blk,ha],?_⟩
  unfold row?
  rw[hg,Nat.zero_add]
  have h2:i*k+k≤rows.length*k:=by rw[←Nat.succ_mul];exact Nat.mul_le_mul_right _ hi
  have h3:rows.length*k≤cur.size:=by rw[hsz];exact Nat.mul_le_mul_right _ hle
  show(if i*k+k≤cur.size then _ else _)=_
  rw[if_pos (by omega)]
  congr 1
  have hrs:=h.size rows[i] (List.getElem_mem hi)
  apply Array.ext_getElem?
  intro j
  by_cases hj:j<k
  ·rw[Array.getElem?_extract]
   have e1:j<min (i*k+k) cur.size-i*k:=by omega
   rw[if_pos e1,←flat_get h.size i j hi hj,←htake,List.getElem?_take,if_pos (by omega)]
   simp
  ·rw[Array.getElem?_eq_none (by simp;omega),Array.getElem?_eq_none (by omega)]
structure bJ(w:World)(k:Nat)(A:Option Addr)(rows:List (Array Value)):Prop where
 size:∀r∈rows,r.size=k
 one:∀r∈rows,dD r=true
 at_:∀i (hi:i<rows.length),∃b o,A=some ⟨b,o,none⟩∧row? w b (o+i*k) k=some rows[i]
theorem bJ.cells{w:World}{k:Nat}{A:Option Addr}{rows:List (Array Value)}(h:bJ w k A rows)(hk:0<k)(hn:0<rows.length) :
  ∃b o,A=some ⟨b,o,none⟩∧∀j u,(flat rows)[j]?=some u→w.cell? ((⟨b,o,none⟩:Addr).add j)=some u:=by
 obtain⟨b,o,ha,_⟩:=h.at_ 0 hn
 refine⟨b,o,ha,fun j u hu=>?_⟩
 have hj:j<rows.length*k:=by have:=(List.getElem?_eq_some_iff.1 hu).1;rwa[flat_length h.size]at this
 have hi:j / k<rows.length:=by rw[Nat.div_lt_iff_lt_mul hk];exact hj
 have hr:j % k<k:=Nat.mod_lt _ hk
 have e:j / k*k+j % k=j:=Nat.div_add_mod' j k
 obtain⟨b',o',ha',hrow⟩:=h.at_ (j / k) hi
 rw[ha]at ha';cases ha'
 have hg:=flat_get h.size (j / k) (j % k) hi hr
 rw[e,hu]at hg
 have hc:=gp hrow (j % k) hr
 rw[Nat.add_assoc,e]at hc
 have hadd:(⟨b,o,none⟩:Addr).add j=⟨b,o+j,none⟩:=by unfold Addr.add;split<;>simp_all
 rw[hadd,hc,←hg]
theorem bJ.vals{w:World}{k:Nat}{A:Option Addr}{rows:List (Array Value)}(h:bJ w k A rows):∀u∈flat rows,u.oneCell'=true:=by
 intro u hu
 obtain⟨r,hr,hur⟩:=List.mem_flatMap.1 hu
 have:=h.one r hr
 unfold dD at this
 rw[Array.all_eq_true']at this
 exact this u (by simpa using hur)
theorem bJ.new(w:World)(cs:Array Value)(t:TypeId)(k:Nat)(hs:cs.size=k)(h1:dD cs=true):bJ (w.alloc (.cells cs t)) k (some ⟨w.heap.size,0,none⟩) [cs]:=
 ⟨by simpa using hs,by simpa using h1,fun i hi=>⟨_,_,rfl,by
  obtain rfl:i=0:=by simp at hi;exact hi
  rw[G6 rfl,Nat.zero_add,Nat.zero_mul,dH hs];rfl⟩⟩
structure gJ(P:Program)(t e:TypeId)(k bytes:Nat):Prop where
 und:P.underlying t=some (.slice e)
 info:∃i z,P.info? e=some i∧i.zero=some z∧i.size=k∧i.bytes=bytes∧z.cells.size=k
 pos:0<k
def TC(x:Option (Option Nat×Nat×Nat))(k bytes:Nat):Bool:=match x with|some (some a,b,c)=>a == k&&b == k&&c == bytes&&decide (0<k)|_=>false
theorem gJ.of{P:Program}{t e:TypeId}{k bytes:Nat}(hu:P.underlying t=some (.slice e))(h:TC ((P.info? e).map fun i=>(i.zero.map (·.cells.size),i.size,i.bytes)) k bytes=true):gJ P t e k bytes:=by
 unfold TC at h
 cases hi:P.info? e with
 |none=>rw[hi]at h;cases h
 |some i=>
  rw[hi]at h
  simp only[Option.map_some]at h
  cases hz:i.zero with
  |none=>rw[hz]at h;cases h
  |some z=>
   rw[hz]at h
   simp only[Option.map_some,Bool.and_eq_true,beq_iff_eq,decide_eq_true_eq]at h
   exact⟨hu,⟨i,z,hi,hz,h.1.1.2,h.1.2,h.1.1.1⟩,h.2⟩
theorem run_append_nil{P:Program}{t ty e:TypeId}{k bytes:Nat}(he:gJ P t e k bytes)(w:World){base:Nat}{s:Sl}{rows:List (Array Value)}(h:Own w base e k s rows)(c:Nat) :
  (Builtin.append_ #[t,t] ty #[.slice s.a rows.length s.cap,.slice none 0 c]).run P w=.ok (.slice s.a rows.length s.cap) w:=by
 obtain⟨i,z,hi,hz,h1,h2,h3⟩:=he.info
 rcases h.own.2 with⟨hv,hn⟩|⟨g,cap,cur,hv,_,_,hnc,_⟩
 ·rw[hv];simp[Builtin.append_,run_underlying he.und,sizeOf,typeInfo,hi,Builtin.lenOf,Builtin.firstCells]
 ·rw[hv];simp[Builtin.append_,run_underlying he.und,sizeOf,typeInfo,hi,Builtin.lenOf,Builtin.firstCells,hnc,storeCells]
theorem TD{P:Program}{t ty e:TypeId}{k bytes:Nat}(he:gJ P t e k bytes)(w:World){base:Nat}{s:Sl}{rows:List (Array Value)}(h:Own w base e k s rows){A:Option Addr}{news:List (Array Value)}(c:Nat)
  (hs:bJ w k A news) (hlen:(rows.length+news.length)*(bytes+1)≤140737488355328) (hbase:base≤w.heap.size) :
  ∃s' w',(Builtin.append_ #[t,t] ty #[.slice s.a rows.length s.cap,.slice A news.length c]).run P w=.ok (.slice s'.a (rows.length+news.length) s'.cap) w'∧Own w' base e k s' (rows++news)∧w.grownBy w' s.blk∧(s'.blk=s.blk∨s'.blk=some w.heap.size):=by
 have hl1:rows.length+news.length≤maxLen:=by
  have:rows.length+news.length≤(rows.length+news.length)*(bytes+1):=Nat.le_mul_of_pos_right _ (by omega)
  unfold maxLen;omega
 have hl2:(rows.length+news.length)*bytes≤140737488355328:=Nat.le_trans (Nat.mul_le_mul_left _ (by omega)) hlen
 have main:∀b o,A=some ⟨b,o,none⟩→(∀j u,(flat news)[j]?=some u→w.cell? ((⟨b,o,none⟩:Addr).add j)=some u)→
   ∃s' w',(Builtin.append_ #[t,t] ty #[.slice s.a rows.length s.cap,.slice A news.length c]).run P w=.ok (.slice s'.a (rows.length+news.length) s'.cap) w'∧Own w' base e k s' (rows++news)∧w.grownBy w' s.blk∧(s'.blk=s.blk∨s'.blk=some w.heap.size):=by
  intro b o hA hcells
  obtain⟨i,z,hi,hz,h1,h2,h3⟩:=he.info
  obtain⟨v',w',hrun,hown,hg,_,hb⟩:=run_append_own_at (P:=P) w base t ty e i z k bytes he.und hi hz h1 h2 h3 he.pos (.slice s.a rows.length s.cap) rows.length (flat rows) h.own ⟨b,o,none⟩ news.length c (flat news) (flat_length hs.size) hcells hs.vals hl1 hl2 hbase
  rw[Aw]at hg hb
  have hform:∃s':Sl,v'=.slice s'.a (rows.length+news.length) s'.cap:=by
   rcases hown.2 with⟨hv,hn⟩|⟨g,cap,cur,hv,_⟩
   ·exact⟨⟨none,0⟩,by rw[hv,hn]⟩
   ·exact⟨⟨some ⟨g,0,none⟩,cap⟩,hv⟩
  obtain⟨s',rfl⟩:=hform
  rw[Aw]at hb
  refine⟨s',w',by rw[hA];exact hrun,⟨by rw[List.length_append,acO];exact hown,fun r hr=>?_⟩,hg,hb⟩
  rcases List.mem_append.1 hr with hr|hr
  ·exact h.size r hr
  ·exact hs.size r hr
 rcases Nat.eq_zero_or_pos news.length with hn|hn
 ·obtain rfl:news=[]:=List.eq_nil_of_length_eq_zero hn
  cases A with
  |none=>
   refine⟨s,w,?_,by simpa using h,World.grownBy.refl w _,.inl rfl⟩
   exact run_append_nil he w h c
  |some a=>
   obtain⟨i,z,hi,hz,h1,h2,h3⟩:=he.info
   obtain⟨v',w',hrun,hown,hg,_,hb⟩:=run_append_own_at (P:=P) w base t ty e i z k bytes he.und hi hz h1 h2 h3 he.pos (.slice s.a rows.length s.cap) rows.length (flat rows) h.own a 0 c [] (by simp) (by simp) (by simp) hl1 hl2 hbase
   rw[Aw]at hg hb
   have hform:∃s':Sl,v'=.slice s'.a (rows.length+0) s'.cap:=by
    rcases hown.2 with⟨hv,hn⟩|⟨g,cap,cur,hv,_⟩
    ·exact⟨⟨none,0⟩,by rw[hv,hn]⟩
    ·exact⟨⟨some ⟨g,0,none⟩,cap⟩,hv⟩
   obtain⟨s',rfl⟩:=hform
   rw[Aw]at hb
   exact⟨s',w',hrun,⟨by simpa using hown,by simpa using h.size⟩,hg,hb⟩
 ·obtain⟨b,o,hA,hc⟩:=hs.cells he.pos hn
  exact main b o hA hc
theorem LM{P:Program}{o:Oper}{a:Act}{w:World}{K:Act→World→Prop}{Q:Exit→Act→World→Prop}(x y:Operand)(t:TypeId)(ho:o.op=.call {callee:=.builtin .append,args:=#[x,y],argTypes:=#[t,t]})
  {e:TypeId} {k bytes:Nat} (he:gJ P t e k bytes) {base:Nat} {s:Sl} {rows:List (Array Value)} (hx:a.eval x=.slice s.a rows.length s.cap) (h:Own w base e k s rows) {A:Option Addr} {news:List (Array Value)} {m c:Nat}
  (hy:a.eval y=.slice A m c) (hm:m=news.length) (hs:bJ w k A news) (hlen:(rows.length+news.length)*(bytes+1)≤140737488355328) (hbase:base≤w.heap.size)
  (hK:∀(s':Sl) w',Own w' base e k s' (rows++news)→w.grownBy w' s.blk→(s'.blk=s.blk∨s'.blk=some w.heap.size)→K (a.put o.dst (.slice s'.a (rows.length+news.length) s'.cap)) w'):o.wp P a w K Q:=by
 subst hm
 obtain⟨s',w',hrun,h2,h3,h4⟩:=TD (ty:=o.type) he w h c hs hlen hbase
 unfold Oper.wp execOp
 simp only[ho,resolve,invoke,builtin,Sem.run_bind,Sem.run_pure,Result.andThen_ok,List.map_toArray,List.map_cons,List.map_nil,hx,hy,hrun]
 exact hK s' w' h2 h3 h4
theorem acP{P:Program}{ops:Array Oper}{rest:List Oper}{o:Oper}{a:Act}{w:World}{Q:Exit→Act→World→Prop}(hgd:o.guard=none)(x y:Operand)(t:TypeId)(ho:o.op=.call {callee:=.builtin .append,args:=#[x,y],argTypes:=#[t,t]})
  {e:TypeId} {k bytes:Nat} (he:gJ P t e k bytes) {base:Nat} {s:Sl} {rows:List (Array Value)} (hx:a.eval x=.slice s.a rows.length s.cap) (h:Own w base e k s rows) {A:Option Addr} {news:List (Array Value)} {m c:Nat}
  (hy:a.eval y=.slice A m c) (hm:m=news.length) (hs:bJ w k A news) (hlen:(rows.length+news.length)*(bytes+1)≤140737488355328) (hbase:base≤w.heap.size)
  (hK:∀(s':Sl) w',Own w' base e k s' (rows++news)→w.grownBy w' s.blk→(s'.blk=s.blk∨s'.blk=some w.heap.size)→wpList P ops Q rest (a.put o.dst (.slice s'.a (rows.length+news.length) s'.cap)) w'):wpList P ops Q (o::rest) a w:=
 wpList_plain hgd fun _ hK'=>LM x y t ho he hx h hy hm hs hlen hbase fun s' w' h2 h3 h4=>hK' _ _ (hK s' w' h2 h3 h4)
def aZ(w:World)(S:Nat→Prop)(Φ:World→Prop):Prop:=∀w':World,(∀k,S k→w'.heap[k]?=w.heap[k]?)→Φ w'
theorem aZ.out{w:World}{S:Nat→Prop}{Φ:World→Prop}(h:aZ w S Φ):Φ w:=h w fun _ _=>rfl
theorem aZ.to{w w1:World}{S S1:Nat→Prop}{Φ:World→Prop}(h:aZ w S Φ)(hw:∀k,S k→w1.heap[k]?=w.heap[k]?)(hS:∀k,S k→S1 k):aZ w1 S1 Φ:=
 fun w' hw'=>h w' fun k hk=>(hw' k (hS k hk)).trans (hw k hk)
def fresh(base:Nat)(w:World):Nat→Prop:=fun k=>base≤k∧k<w.heap.size
def acQ(base:Nat)(w:World)(g:Option Nat):Nat→Prop:=fun k=>base≤k∧k<w.heap.size∧some k≠g
theorem cZ{w:World}{b o:Nat}{c:Array Value}{t:TypeId}(v:Value)(h:w.heap[b]?=some (.cells c t)):(w.setCell ⟨b,o,none⟩ v).heap[b]?=some (.cells (c.setIfInBounds o v) t):=by
 simp[World.setCell,Array.getElem?_modify,h]
theorem TE{b:Nat}{t:TypeId}:∀(l:List Value) (o:Nat) (c:Array Value) (w:World),w.heap[b]?=some (.cells c t)→
  (w.setCells b o l).heap[b]?=some (.cells ((l.zipIdx o).foldl (fun c x=>c.setIfInBounds x.2 x.1) c) t)
 | [],_,_,_,h=>h
 |v::l,o,c,w,h=>by
  rw[World.setCells]
  exact TE l (o+1) _ _ (cZ v h)
theorem TF{b k:Nat}(hk:k≠b):∀(l:List Value) (o:Nat) (w:World),(w.setCells b o l).heap[k]?=w.heap[k]?
 | [],_,_=>rfl
 |v::l,o,w=>by
  rw[World.setCells,TF hk l (o+1)]
  exact Below.heap_setCell w _ v k hk
theorem DV{b B:Nat}(hB:B≤b):∀(l:List Value) (o:Nat) (w:World),Below B w (w.setCells b o l)
 | [],_,w=>Below.refl _ _
 |v::l,o,w=>by
  rw[World.setCells]
  exact((Below.refl B w).setCell (p:=⟨b,o,none⟩) hB v).trans (DV hB l (o+1) _)
theorem setCells_size{b:Nat}:∀(l:List Value) (o:Nat) (w:World),(w.setCells b o l).heap.size=w.heap.size
 | [],_,w=>rfl
 |v::l,o,w=>by
  rw[World.setCells,setCells_size l (o+1)]
  simp[World.setCell]
theorem TG(post:List Value):∀(pre l m:List Value),l.length=m.length→
  ((m.zipIdx pre.length).foldl (fun(c:Array Value) x=>c.setIfInBounds x.2 x.1) (pre++l++post).toArray)=(pre++m++post).toArray
 |_,[],[],_=>by simp
 |pre,x::l,y::m,h=>by
  have ih:=TG post (pre++[y]) l m (by simpa using h)
  simp only[List.zipIdx_cons,List.foldl_cons]
  have e:(pre++x::l++post).toArray.setIfInBounds pre.length y=((pre++[y])++l++post).toArray:=by simp
  rw[e]
  simpa using ih
def splice(c:Array Value)(o:Nat)(cs:Array Value):Array Value:=(c.toList.take o++cs.toList++c.toList.drop (o+cs.size)).toArray
theorem Az{c cs:Array Value}(h:c.size=cs.size):splice c 0 cs=cs:=by
 have:c.toList.drop (0+cs.size)=[]:=by rw[List.drop_eq_nil_iff];simp[h]
 unfold splice;rw[this];simp
theorem Hf{c:Array Value}{o:Nat}{cs:Array Value}(h:o+cs.size≤c.size):(splice c o cs).size=c.size:=by simp[splice];omega
theorem pX{w:World}{b o:Nat}{c cs:Array Value}{t:TypeId}(h:w.heap[b]?=some (.cells c t))(ho:o+cs.size≤c.size):(putRow w b o cs).heap[b]?=some (.cells (splice c o cs) t):=by
 unfold putRow
 rw[TE cs.toList o c w h]
 have:=TG (c.toList.drop (o+cs.size)) (c.toList.take o) ((c.toList.drop o).take cs.size) cs.toList (by simp;omega)
 have e:c.toList.take o++(c.toList.drop o).take cs.size++c.toList.drop (o+cs.size)=c.toList:=by
  rw[List.append_assoc,←List.drop_drop,List.take_append_drop,List.take_append_drop]
 have ho':(c.toList.take o).length=o:=by simp;omega
 rw[e,ho']at this
 rw[show c.toList.toArray=c by simp]at this
 rw[this]
 rfl
theorem jh{w:World}{b o k:Nat}{cs:Array Value}(h:k≠b):(putRow w b o cs).heap[k]?=w.heap[k]?:=TF h _ _ _
theorem jS(w:World)(b o:Nat)(cs:Array Value):(putRow w b o cs).heap.size=w.heap.size:=setCells_size _ _ _
theorem Below.putRow{B b o:Nat}{W w:World}{cs:Array Value}(h:Below B W w)(hB:B≤b):Below B W (Go.WW.putRow w b o cs):=h.trans (DV hB _ _ _)
theorem acR{w:World}{b o n:Nat}(h:aJ w b o n=true):∃c t,w.heap[b]?=some (.cells c t)∧o+n≤c.size:=by
 unfold aJ at h
 split at h
 ·rename_i c t f hb
  simp only[Bool.and_eq_true,decide_eq_true_eq]at h
  obtain⟨h1,rfl⟩:=h
  exact⟨c,t,hb,h1⟩
 ·cases h
theorem iV{w:World}{b n:Nat}{cs:Array Value}(hn:cs.size=n)(hc:aJ w b 0 n=true):row? (putRow w b 0 cs) b 0 n=some cs:=by
 subst hn
 obtain⟨c,t,hb,hs⟩:=acR hc
 unfold row?
 rw[pX hb hs]
 have hs':0+cs.size≤(splice c 0 cs).size:=by rw[Hf hs];exact hs
 show(if 0+cs.size≤(splice c 0 cs).size then _ else _)=_
 rw[if_pos hs']
 simp[splice]
theorem acS{w:World}{b j:Nat}{cs:Array Value}(hc:aJ w b 0 cs.size=true)(hj:j<cs.size):(putRow w b 0 cs).cell? ⟨b,j,none⟩=cs[j]?:=by
 have:=gp (iV rfl hc) j hj
 simpa using this
theorem cell?_putRow_other{w:World}{b o k o':Nat}{cs:Array Value}(h:k≠b):(putRow w b o cs).cell? ⟨k,o',none⟩=w.cell? ⟨k,o',none⟩:=World.cell?_of_block (a:=⟨k,o',none⟩) (jh h)
theorem TJ{w:World}{b o k o' n:Nat}{cs:Array Value}(h:k≠b):aJ (putRow w b o cs) k o' n=aJ w k o' n:=tJ (jh h) o' n
theorem acT{P:Program}{w:World}{b o:Nat}{cs:Array Value}(hc:aJ w b o cs.size=true)(h1:dD cs=true):(storeCells ⟨b,o,none⟩ cs.toList).run P w=.ok () (putRow w b o cs):=by
 have ht:=SV hc
 have h0:=run_storeCells_cells (P:=P) b o cs.toList 0 w (fun j hj=>(ht j (by simpa using hj)).1) (fun j hj=>(ht j (by simpa using hj)).2) (fun u hu=>by unfold dD at h1;rw[Array.all_eq_true']at h1;exact h1 u (by simpa using hu))
 unfold putRow
 simpa using h0
theorem nO{w:World}{b o n:Nat}{c:Array Value}{t:TypeId}(h:w.heap[b]?=some (.cells c t))(hn:o+n≤c.size):aJ w b o n=true:=by unfold aJ;rw[h];simp[hn]
theorem bV{w:World}{b o n:Nat}{c:Array Value}{t:TypeId}(h:w.heap[b]?=some (.cells c t)):row? w b o n=eQ c o n:=by unfold row? eQ;rw[h]
theorem gY{W w1:World}(hb:Below W.heap.size W w1):∀b o n,b<W.heap.size→aJ w1 b o n=aJ W b o n:=fun b o n h=>tJ (hb.block b h) o n
theorem acU(w:World)(b o n:Nat):aJ w.drew b o n=aJ w b o n:=rfl
attribute [go_sem] iV acS cell?_putRow_other TJ acT acU
theorem foldl_push(l:List UInt8):∀(acc:List UInt8),((l.map fun c=>((c.toNat:Nat):Int)).foldl (fun(r:ByteArray) n=>r.push (UInt8.ofNat n.toNat)) ⟨acc.toArray⟩)=⟨(acc++l).toArray⟩:=by
 induction l with
 |nil=>intro acc;simp
 |cons c l ih=>
  intro acc
  rw[List.map_cons,List.foldl_cons]
  have e:(ByteArray.mk acc.toArray).push (UInt8.ofNat ((c.toNat:Nat):Int).toNat)=⟨(acc++[c]).toArray⟩:=by
   simp[ByteArray.push]
  rw[e,ih]
  simp
theorem TK{P:Program}(w:World)(src dst e:TypeId)(hs:P.underlying src=some (.slice e))(he:P.underlying e=some (.int .u8))(hd:P.underlying dst=some .string)(b o cap:Nat)(l:List UInt8)
  (h:∀i (hi:i<l.length),w.cell? ⟨b,o+i,none⟩=some (.int .u8 l[i].toNat)):(convert src dst (.slice (some ⟨b,o,none⟩) l.length cap)).run P w=.ok (.string ⟨l.toArray⟩) w:=by
 rw[run_convert_bytes_string w src dst e _ _ _ hs he hd]
 have hl:(loadCells ⟨b,o,none⟩ l.length).run P w=.ok ((l.map fun c=>((c.toNat:Nat):Int)).map (Value.int .u8)).toArray w:=by
  have:=run_loadCells_list (P:=P) w ⟨b,o,none⟩ ((l.map fun c=>((c.toNat:Nat):Int)).map (Value.int .u8)) (fun j v hv=>by
   have hj:j<l.length:=by have:=(List.getElem?_eq_some_iff.1 hv).1;simpa using this
   have hadd:(⟨b,o,none⟩:Addr).add j=⟨b,o+j,none⟩:=by unfold Addr.add;split<;>simp_all
   rw[hadd,h j hj]
   simp[hj]at hv
   rw[←hv])
  simpa using this
 rw[run_bytesToString w _ _ _ _ hl]
 have e0:ByteArray.empty=⟨([]:List UInt8).toArray⟩:=rfl
 rw[e0,foldl_push,List.nil_append]
theorem gK{P:Program}{ops:Array Oper}{rest:List Oper}{o:Oper}{a:Act}{w:World}{Q:Exit→Act→World→Prop}(hgd:o.guard=none)(x y:Operand)(t:TypeId)(ho:o.op=.call {callee:=.builtin .append,args:=#[x,y],argTypes:=#[t,t]})
  {e:TypeId} {k bytes:Nat} (he:gJ P t e k bytes) {base:Nat} {s:Sl} {n:Nat} {rows:List (Array Value)} (hx:a.eval x=.slice s.a n s.cap) (hn:n=rows.length) (h:Own w base e k s rows) {A:Option Addr} {news:List (Array Value)} {m c:Nat}
  (hy:a.eval y=.slice A m c) (hm:m=news.length) (hs:bJ w k A news) (hlen:(rows.length+news.length)*(bytes+1)≤140737488355328) (hbase:base≤w.heap.size)
  (hK:∀(s':Sl) w',Own w' base e k s' (rows++news)→w.grownBy w' s.blk→(s'.blk=s.blk∨s'.blk=some w.heap.size)→wpList P ops Q rest (a.put o.dst (.slice s'.a (n+m) s'.cap)) w'):wpList P ops Q (o::rest) a w:=by
 subst hn hm
 exact acP hgd x y t ho he hx h hy rfl hs hlen hbase hK
theorem aO.src{w:World}{k n:Nat}{a:Option Addr}{R:Nat→Array Value→Prop}(h:aO w k a n R)(hR:∀i cs,R i cs→cs.size=k∧dD cs=true) :
  ∃rows,rows.length=n∧bJ w k a rows∧∀i (hi:i<rows.length),R i rows[i]:=by
 rcases Nat.eq_zero_or_pos n with h0|h0
 ·subst h0;exact⟨[],rfl,⟨by simp,by simp,fun i hi=>by simp at hi⟩,fun i hi=>by simp at hi⟩
 ·obtain⟨b,o,_,ha,_⟩:=h.2 0 h0
  have key:∀i,i<n→∃cs,row? w b (o+i*k) k=some cs∧R i cs:=fun i hi=>by
   obtain⟨b',o',cs,ha',hr,hc⟩:=h.2 i hi
   rw[ha]at ha';cases ha'
   exact⟨cs,hr,hc⟩
  have hg:∀i (hi:i<((List.range n).map fun i=>(row? w b (o+i*k) k).getD #[]).length),∃cs,((List.range n).map fun i=>(row? w b (o+i*k) k).getD #[])[i]=cs∧row? w b (o+i*k) k=some cs∧R i cs:=fun i hi=>by
   have hi':i<n:=by simpa using hi
   obtain⟨cs,h1,h2⟩:=key i hi'
   exact⟨cs,by simp[h1],h1,h2⟩
  refine⟨(List.range n).map fun i=>(row? w b (o+i*k) k).getD #[],by simp,⟨fun r hr=>?_,fun r hr=>?_,fun i hi=>?_⟩,fun i hi=>?_⟩
  ·obtain⟨i,hi,rfl⟩:=List.mem_iff_getElem.1 hr
   obtain⟨cs,e,_,h2⟩:=hg i hi
   rw[e];exact(hR i cs h2).1
  ·obtain⟨i,hi,rfl⟩:=List.mem_iff_getElem.1 hr
   obtain⟨cs,e,_,h2⟩:=hg i hi
   rw[e];exact(hR i cs h2).2
  ·obtain⟨cs,e,h1,_⟩:=hg i hi
   exact⟨b,o,ha,by rw[e];exact h1⟩
  ·obtain⟨cs,e,_,h2⟩:=hg i hi
   rw[e];exact h2
theorem aO.dX{w:World}{base k n:Nat}{e:TypeId}{s:Sl}{rows:List (Array Value)}{R:Nat→Array Value→Prop}(h:Own w base e k s rows)(hl:rows.length=n)(hn:n≤lim)(hR:∀i (hi:i<rows.length),R i rows[i]):aO w k s.a n R:=by
 subst hl
 refine⟨hn,fun i hi=>?_⟩
 obtain⟨g,ha,_,hrow⟩:=h.row i hi
 exact⟨g,0,rows[i],ha,hrow,hR i hi⟩
theorem acV{w:World}{b o:Nat}{v:Value}(h:w.cell? ⟨b,o,none⟩=some v):row? w b o 1=some #[v]:=by
 have hlt:=World.block_lt_of_cell? w _ h
 unfold row?
 cases hb:w.heap[b]? with
 |none=>exfalso;simp[World.cell?,hb]at h
 |some ob=>
  cases ob with
  |cells c t f=>
   rw[cell_of_row w b o c t f hb]at h
   have ho:=(Array.getElem?_eq_some_iff.1 h).1
   show(if o+1≤c.size then _ else _)=_
   rw[if_pos (by omega)]
   congr 1
   apply Array.ext_getElem?
   intro j
   rw[Array.getElem?_extract]
   by_cases hj:j=0
   ·subst hj;rw[if_pos (by omega)];simpa using h
   ·rw[if_neg (by omega)];simp;omega
  |_=>exfalso;simp[World.cell?,hb]at h
theorem dJ.src{w:World}{n:Nat}{a:Option Addr}{R:Nat→Value→Prop}(h:dJ w a n R)(hR:∀i v,R i v→v.oneCell'=true) :
  ∃rows,rows.length=n∧bJ w 1 a rows∧∀i (hi:i<rows.length),∃v,rows[i]=#[v]∧R i v:=by
 have h':aO w 1 a n (fun i cs=>∃v,cs=#[v]∧R i v):=⟨h.1,fun i hi=>by
  obtain⟨b,o,v,ha,hc,hr⟩:=h.2 i hi
  exact⟨b,o,#[v],ha,by rw[Nat.mul_one];exact acV hc,v,rfl,hr⟩⟩
 obtain⟨rows,h1,h2,h3⟩:=h'.src (fun i cs ⟨v,e,hr⟩=>by subst e;exact⟨rfl,by simp[dD,hR i v hr]⟩)
 exact⟨rows,h1,h2,h3⟩
theorem dJ.dX{w:World}{base n:Nat}{e:TypeId}{s:Sl}{rows:List (Array Value)}{R:Nat→Value→Prop}(h:Own w base e 1 s rows)(hl:rows.length=n)(hn:n≤lim)(hR:∀i (hi:i<rows.length),∃v,rows[i]=#[v]∧R i v):dJ w s.a n R:=by
 subst hl
 refine⟨hn,fun i hi=>?_⟩
 obtain⟨g,ha,_,hrow⟩:=h.row i hi
 obtain⟨v,e,hr⟩:=hR i hi
 refine⟨g,0,v,ha,?_,hr⟩
 have:=gp hrow 0 (by omega)
 rw[e,Nat.mul_one]at this
 simpa using this
theorem acW{P:Program}{ops:Array Oper}{rest:List Oper}{o:Oper}{a:Act}{w:World}{Q:Exit→Act→World→Prop}(hw:Region.wanted o (yielded ops a.tmps)=true)(x y:Operand)(t:TypeId)(ho:o.op=.call {callee:=.builtin .append,args:=#[x,y],argTypes:=#[t,t]})
  {e:TypeId} {k bytes:Nat} (he:gJ P t e k bytes) {base:Nat} {s:Sl} {n:Nat} {rows:List (Array Value)} (hx:a.eval x=.slice s.a n s.cap) (hn:n=rows.length) (h:Own w base e k s rows) {A:Option Addr} {news:List (Array Value)} {m c:Nat}
  (hy:a.eval y=.slice A m c) (hm:m=news.length) (hs:bJ w k A news) (hlen:(rows.length+news.length)*(bytes+1)≤140737488355328) (hbase:base≤w.heap.size)
  (hK:∀(s':Sl) w',Own w' base e k s' (rows++news)→w.grownBy w' s.blk→(s'.blk=s.blk∨s'.blk=some w.heap.size)→wpList P ops Q rest (a.put o.dst (.slice s'.a (n+m) s'.cap)) w'):wpList P ops Q (o::rest) a w:=by
 subst hn hm
 refine wpList_step fun K hK'=>?_
 rw[if_pos hw]
 exact LM x y t ho he hx h hy rfl hs hlen hbase fun s' w' h2 h3 h4=>hK' _ _ (hK s' w' h2 h3 h4)
theorem Own.one(w:World)(cs:Array Value)(t:TypeId)(k:Nat)(hs:cs.size=k):Own (w.alloc (.cells cs t)) w.heap.size t k ⟨some ⟨w.heap.size,0,none⟩,1⟩ [cs]:=by
 refine⟨⟨by simp[flat,hs],.inr ⟨w.heap.size,1,cs,rfl,Nat.le_refl _,World.alloc_heap_new w _,Nat.le_refl _,by unfold maxLen;omega,by simp[hs],?_⟩⟩,by simpa using hs⟩
 simp only[flat,List.flatMap_cons,List.flatMap_nil,List.append_nil,List.length_singleton,Nat.one_mul]
 exact List.take_of_length_le (by simp[hs])
theorem DW{w:World}{l:List aB}(i:Nat)(cs:Array Value)(h:∃p s,l[i]?=some p∧cs=ak s p∧bg w s p):cs.size=2∧dD cs=true:=by
 obtain⟨p,s,_,rfl,_⟩:=h;exact⟨Lu s p,Tf s p⟩
def yF(p:aB):Prop:=(∀i (h:i<p.parts.length),p.parts[i].size≤40)∧p.parts.length≤6∧p.aG.size≤40
noncomputable def AA(p:Prop):Bool:=@decide p (Classical.propDecidable p)
theorem acX{p:Prop}(h:p):AA p=true:=@decide_eq_true p (Classical.propDecidable p) h
theorem LQ{p:Prop}(h:¬p):AA p=false:=@decide_eq_false p (Classical.propDecidable p) h
theorem TL{w:World}(cs:Array Value)(t:TypeId):Below w.heap.size w (w.alloc (.cells cs t)):=(Below.refl _ _).alloc (Nat.le_refl _) _
end Go.WW
namespace Go.Proofs.YtaghcadlgbnbdaaGreatDoor
open Go.RowKit Go.WW
theorem LU(s:Sl)(p:aB)(w:World)(hp:bg w s p):Calls Tryz.prog 12 #[.agg (ak s p)] w fun e w'=>e=.returned (.bool (AA (yF p)))∧Below w.heap.size w w':=by
 have hB:Below w.heap.size w (w.alloc (.cells (ak s p) 25)):=TL _ _
 have hn:p.parts.length≤9223372036854775807:=Nat.le_trans hp.1.1 (by decide)
 have hr:p.aG.size≤9223372036854775807:=Nat.le_trans hp.2 (by decide)
 go_enter Tryz.func12,Tryz.ntmps12
 go_wp2_with fail
 go_loop [3] (fun i=>∃k:Nat,k≤p.parts.length∧i=.int .i64 k∧Hid (∀j (h:j<p.parts.length),j<k→p.parts[j].size≤40)) (fun i=>p.parts.length-(intOf i).toNat)
 case atStart=>exact⟨0,Nat.zero_le _,rfl,fun j h hj=>absurd hj (Nat.not_lt_zero _)⟩
 case round=>
  obtain⟨k,hk,rfl,hall⟩:=hrel
  by_cases hlt:k<p.parts.length
  ·obtain⟨b2,o2,ha2,hc2,hs2⟩:=hp.1.get k hlt
   have hs2':p.parts[k].size≤9223372036854775807:=Nat.le_trans hs2 (by decide)
   have acY:b2<w.heap.size:=World.block_lt_of_cell? w _ hc2
   obtain⟨sa,sc⟩:=s
   dsimp only at ha2
   subst ha2
   go_wp2_with fail
   all_goals first
    |(go_ret;exact⟨by rw[LQ (fun h=>by have:=h.1 k hlt;omega)];rfl,hB⟩)
    |(go_round
      case rel=>exact⟨k+1,by omega,by go_num,fun j h hj=>by
       rcases Nat.lt_or_ge j k with h1|h1
       ·exact hall.out j h h1
       ·obtain rfl:j=k:=by omega
        omega⟩
      case measure=>simp[intOf];omega)
  ·by_cases h6:p.parts.length≤6
   ·have h6':(p.parts.length:Int)≤6:=by omega
    by_cases TM:p.aG.size≤40
    ·have LW:(p.aG.size:Int)≤40:=by omega
     have e:=Lib.hid (acX (p:=yF p) ⟨fun i h=>hall.out i h (by omega),h6,TM⟩)
     go_wp2_with fail
     go_ret
     exact⟨by rw[e.out];first|rfl|(simp[LW]),hB⟩
    ·have LW:¬(p.aG.size:Int)≤40:=by omega
     have e:=Lib.hid (LQ (p:=yF p) (fun h=>TM h.2.2))
     go_wp2_with fail
     go_ret
     exact⟨by rw[e.out];first|rfl|(simp[LW]),hB⟩
   ·have h6':¬(p.parts.length:Int)≤6:=by omega
    have e:=Lib.hid (LQ (p:=yF p) (fun h=>h6 h.2.1))
    go_wp2_with fail
    all_goals go_ret
    all_goals exact⟨by rw[e.out];first|rfl|(simp[h6']),hB⟩
end Go.Proofs.YtaghcadlgbnbdaaGreatDoor
namespace Go.Proofs.YtaghcadlgbnbdaaGreatDoor
open Go.ChangeShapes Go.WideShapes Go.ChangeAt Go.RowKit Go.WW Go.Deep
section
variable {H:Type}
theorem acZ(d:DataW H):1≤Rows.uptoBulk d:=by
 cases d with
 |lit l=>cases l<;>simp[Rows.uptoBulk]
 |_=>simp[Rows.uptoBulk]
theorem TN:∀(l:List (DataW H)),l.length≤Rows.uptoBulkAll l
 | []=>by simp[Rows.uptoBulkAll]
 |d::l=>by have:=acZ d;have:=TN l;simp[Rows.uptoBulkAll];omega
theorem LX{d:DataW H}:∀{l:List (DataW H)},d∈l→Rows.uptoBulk d≤Rows.uptoBulkAll l
 | [],h=>by simp at h
 |e::l,h=>by
  rcases List.mem_cons.1 h with rfl|h
  ·simp[Rows.uptoBulkAll]
  ·have:=LX h;simp[Rows.uptoBulkAll];omega
end
theorem ac0{w:World}{b o n:Nat}{cs:List Value}(hn:cs.length=n)(h0:0<n)(h:∀j,j<n→w.cell? ⟨b,o+j,none⟩=cs[j]?):row? w b o n=some cs.toArray:=by
 have hlast:=h (n-1) (by omega)
 rw[List.getElem?_eq_getElem (by omega)]at hlast
 unfold row?
 cases hb:w.heap[b]? with
 |none=>exfalso;simp[World.cell?,hb]at hlast
 |some ob=>
  cases ob with
  |cells c t f=>
   rw[cell_of_row w b (o+(n-1)) c t f hb]at hlast
   have hl:=(Array.getElem?_eq_some_iff.1 hlast).1
   show(if o+n≤c.size then _ else _)=_
   rw[if_pos (by omega)]
   congr 1
   apply Array.ext_getElem?
   intro j
   rw[Array.getElem?_extract]
   by_cases hj:j<n
   ·rw[if_pos (by omega),←cell_of_row w b (o+j) c t f hb,h j hj];simp
   ·rw[if_neg (by omega)];simp;omega
  |_=>exfalso;simp[World.cell?,hb]at hlast
section
variable {H:Type} {enc:TypeId×Value→H} {P:Program} {w:World} {base:Nat} {spare:Nat→Bool} {held:Bool}
theorem yG{t e:TypeId}{fuel k:Nat}{v:Value}{x:DataW H×List MemPlace}(ht:P.underlying t=some (.slice e))(hC:P.cellsOf e=k)(h0:0<k)(h:DataW.trod enc P w base spare held fuel t [v]=some x)(hb:Rows.uptoBulk x.1≤1048576) :
  ∃(s:Sl) (n:Nat),v=.slice s.a n s.cap∧n≤1048576∧∀i,i<n→∃b o cs fuel' y,s.a=some ⟨b,o,none⟩∧row? w b (o+i*k) k=some cs∧DataW.trod enc P w base spare held fuel' e cs.toList=some y∧Rows.uptoBulk y.1≤1048576:=by
 rcases open_slice ht h with⟨hcs,rfl⟩|⟨a,len,cap,m,n,D,Pl,hcs,hba,hle,hmax,hm,hx,hel⟩
 ·refine⟨⟨none,0⟩,0,by simpa using hcs,by omega,fun i hi=>by omega⟩
 ·rw[hx]at hb
  simp only[Rows.uptoBulk]at hb
  have hlen:=TN ((List.range len).map D)
  simp only[List.length_map,List.length_range]at hlen
  refine⟨⟨some a,cap⟩,len,by simpa using hcs,by omega,fun i hi=>?_⟩
  have hml:len≤m:=by rw[hm];split<;>omega
  obtain⟨c0,hc0,_⟩:=hel 0 (by omega)
  rw[hC]at hc0
  obtain⟨_,hl0,ac1⟩:=World.cells?_some hc0
  have hspot:a.spot=none:=by
   have h1:=ac1 0 h0
   rw[List.getElem?_eq_getElem (by omega)]at h1
   simp only[Nat.zero_mul,Addr.add,if_true]at h1
   unfold World.cell? at h1
   split at h1
   ·split at h1
    ·cases h1
    ·rename_i hs;simpa using hs
   ·cases h1
  obtain⟨b,o,sp⟩:=a
  dsimp only at hspot
  subst hspot
  obtain⟨cs',hc',ht'⟩:=hel i (by omega)
  rw[hC]at hc'
  obtain⟨_,hl',hat'⟩:=World.cells?_some hc'
  refine⟨b,o,cs'.toArray,n,(D i,Pl i),rfl,ac0 hl' h0 (fun j hj=>?_),by simpa using ht',?_⟩
  ·have h1:=hat' j hj
   rw[Addr.add_mid,Addr.add_mid]at h1
   exact h1
  ·have:=LX (d:=D i) (l:=(List.range len).map D) (List.mem_map.2 ⟨i,by simpa using hi,rfl⟩)
   show Rows.uptoBulk (D i)≤_
   omega
end
end Go.Proofs.YtaghcadlgbnbdaaGreatDoor
namespace Go.Proofs.YtaghcadlgbnbdaaGreatDoor
open Go.ChangeShapes Go.WideShapes Go.ChangeAt Go.RowKit Go.WW Go.Deep
theorem wZ{α:Type}{R:Nat→α→Prop}:∀{n:Nat},(∀i,i<n→∃a,R i a)→∃l:List α,l.length=n∧∀i a,l[i]?=some a→R i a
 |0,_=>⟨[],rfl,fun i a h=>by simp at h⟩
 |n+1,h=>by
  obtain⟨l,hl,hr⟩:=wZ (n:=n) (fun i hi=>h i (by omega))
  obtain⟨a,ha⟩:=h n (by omega)
  refine⟨l++[a],by simp[hl],fun i b hb=>?_⟩
  by_cases hi:i<n
  ·rw[List.getElem?_append_left (by omega)]at hb;exact hr i b hb
  ·have hil:=(List.getElem?_eq_some_iff.1 hb).1
   simp[hl]at hil
   obtain rfl:i=n:=by omega
   rw[List.getElem?_append_right (by omega)]at hb
   simp[hl]at hb
   subst hb;exact ha
theorem LY:∀{cs:List Value},cs.length=1→∃c0,cs=[c0]
 | [c0],_=>⟨c0,rfl⟩
theorem ac2:∀{cs:List Value},cs.length=2→∃c0 c1,cs=[c0,c1]
 | [c0,c1],_=>⟨c0,c1,rfl⟩
theorem TP:∀{cs:List Value},cs.length=3→∃c0 c1 c2,cs=[c0,c1,c2]
 | [c0,c1,c2],_=>⟨c0,c1,c2,rfl⟩
theorem ac3:∀{cs:List Value},cs.length=5→∃c0 c1 c2 c3 c4,cs=[c0,c1,c2,c3,c4]
 | [c0,c1,c2,c3,c4],_=>⟨c0,c1,c2,c3,c4,rfl⟩
theorem ac4:∀{cs:List Value},cs.length=10→∃c0 c1 c2 c3 c4 c5 c6 c7 c8 c9,cs=[c0,c1,c2,c3,c4,c5,c6,c7,c8,c9]
 | [c0,c1,c2,c3,c4,c5,c6,c7,c8,c9],_=>⟨c0,c1,c2,c3,c4,c5,c6,c7,c8,c9,rfl⟩
theorem ac5:∀{cs:List Value},cs.length=17→∃c0 c1 c2 c3 c4 c5 c6 c7 c8 c9 c10 c11 c12 c13 c14 c15 c16,cs=[c0,c1,c2,c3,c4,c5,c6,c7,c8,c9,c10,c11,c12,c13,c14,c15,c16]
 | [c0,c1,c2,c3,c4,c5,c6,c7,c8,c9,c10,c11,c12,c13,c14,c15,c16],_=>⟨c0,c1,c2,c3,c4,c5,c6,c7,c8,c9,c10,c11,c12,c13,c14,c15,c16,rfl⟩
theorem xe{n:Nat}(h:n≤1048576):n≤lim:=by unfold lim;omega
section
variable {H:Type} {enc:TypeId×Value→H} {w:World} {base:Nat} {spare:Nat→Bool} {held:Bool} {fuel:Nat} {x:DataW H×List MemPlace}
theorem AB{P:Program}{T:TypeId}{fs:Array Field}{cs:List Value}(ht:P.underlying T=some (.struct fs))(h:DataW.trod enc P w base spare held fuel T cs=some x)(hb:Rows.uptoBulk x.1≤1048576) :
  cs.length=P.cellsOf T∧∃n,∀(i:Nat) (f:Field),fs[i]?=some f→∃y,DataW.trod enc P w base spare held n f.type ((cs.drop f.offset).take (P.cellsOf f.type))=some y∧Rows.uptoBulk y.1≤1048576:=by
 obtain⟨xs,n,_,hx,hlen,hxl,hf⟩:=DataW.trod_struct ht h
 refine⟨hlen,n,fun i f hi=>?_⟩
 have hil:i<xs.length:=by rw[hxl];exact(Array.getElem?_eq_some_iff.1 hi).1
 refine⟨xs[i],by rw[hf i f hi,List.getElem?_eq_getElem hil],?_⟩
 rw[hx]at hb
 simp only[Rows.uptoBulk]at hb
 have:=LX (d:=xs[i].1) (l:=xs.map (·.1)) (List.mem_map.2 ⟨xs[i],List.getElem_mem hil,rfl⟩)
 omega
theorem take_one{cs:List Value}{o:Nat}{c:Value}(h:cs[o]?=some c):(cs.drop o).take 1=[c]:=by
 obtain⟨ho,rfl⟩:=List.getElem?_eq_some_iff.1 h
 rw[List.drop_eq_getElem_cons ho];rfl
theorem DX:Tryz.prog.cellsOf 9=1:=by kernel_rfl
theorem TQ:Tryz.prog.cellsOf 5=1:=by kernel_rfl
theorem iW:Tryz.prog.cellsOf 3=1:=by kernel_rfl
theorem ac6:Tryz.prog.cellsOf 28=1:=by kernel_rfl
theorem Hg:Tryz.prog.cellsOf 25=2:=by kernel_rfl
theorem TR:Tryz.prog.cellsOf 64=3:=by kernel_rfl
theorem TS:Tryz.prog.cellsOf 61=5:=by kernel_rfl
theorem TT:Tryz.prog.cellsOf 32=17:=by kernel_rfl
theorem TU:Tryz.prog.cellsOf 35=10:=by kernel_rfl
theorem ac7:Tryz.prog.cellsOf 23=1:=by kernel_rfl
theorem TV:Tryz.prog.cellsOf 62=1:=by kernel_rfl
theorem LZ:Tryz.prog.cellsOf 26=1:=by kernel_rfl
theorem ac8:Tryz.prog.cellsOf 29=1:=by kernel_rfl
theorem ac9:Tryz.prog.cellsOf 59=1:=by kernel_rfl
theorem ada:Tryz.prog.cellsOf 30=1:=by kernel_rfl
theorem DY{v:Value}(h:DataW.trod enc Tryz.prog w base spare held fuel 9 [v]=some x)(hb:Rows.uptoBulk x.1≤1048576):∃s:ByteArray,v=.string s∧s.size≤lim:=by
 obtain⟨s,hs,hx,_⟩:=DataW.trod_string Tryz.underlying9 h
 refine⟨s,by simpa using hs,?_⟩
 rw[hx]at hb
 simp[Rows.uptoBulk]at hb
 exact xe (by omega)
theorem iY{v:Value}(h:DataW.trod enc Tryz.prog w base spare held fuel 3 [v]=some x):∃n:Int,v=.int .i64 n:=by
 obtain⟨n,hs,_,_⟩:=DataW.trod_int Tryz.underlying3 h
 exact⟨n,by simpa using hs⟩
theorem adb{v:Value}(h:DataW.trod enc Tryz.prog w base spare held fuel 23 [v]=some x)(hb:Rows.uptoBulk x.1≤1048576):∃(s:Sl) (l:List ByteArray),v=.slice s.a l.length s.cap∧iU w s.a l:=by
 obtain⟨s,n,hv,hn,hel⟩:=yG Tryz.underlying23 DX (by omega) h hb
 obtain⟨l,hl,hr⟩:=wZ (R:=fun i (a:ByteArray)=>∃b o,s.a=some ⟨b,o,none⟩∧w.cell? ⟨b,o+i,none⟩=some (.string a)∧a.size≤lim) (n:=n) (fun i hi=>by
  obtain⟨b,o,cs,f',y,ha,hrow,ht,hby⟩:=hel i hi
  have hc:=gp hrow 0 (by omega)
  have hsz:=yE hrow
  obtain⟨c,hcs⟩:∃c,cs.toList=[c]:=by
   obtain⟨l⟩:=cs
   match l,hsz with
   | [c],_=>exact⟨c,rfl⟩
  rw[hcs]at ht
  obtain⟨a,rfl,hs⟩:=DY ht hby
  refine⟨a,b,o,ha,?_,hs⟩
  have e:cs[0]?=some (.string a):=by rw[←Array.getElem?_toList,hcs];rfl
  rw[e]at hc
  simpa using hc)
 refine⟨s,l,by rw[hl];exact hv,by rw[hl];exact xe hn,fun i hi=>?_⟩
 obtain⟨b,o,h1,h2,h3⟩:=hr i l[i] (List.getElem?_eq_getElem hi)
 exact⟨b,o,_,h1,h2,l[i],List.getElem?_eq_getElem hi,rfl,h3⟩
theorem L6{cs:List Value}(h:DataW.trod enc Tryz.prog w base spare held fuel 25 cs=some x)(hb:Rows.uptoBulk x.1≤1048576):∃(s:Sl) (p:aB),cs=(ak s p).toList∧bg w s p:=by
 obtain⟨hl,n,hf⟩:=AB Tryz.underlying25 h hb
 rw[Hg]at hl
 obtain⟨c0,c1,rfl⟩:=ac2 hl
 obtain⟨y0,t0,b0⟩:=hf 0 _ rfl
 replace t0:DataW.trod enc Tryz.prog w base spare held n 23 (([c0,c1].drop 0).take (Tryz.prog.cellsOf 23))=some y0:=t0
 rw[ac7,take_one (c:=c0) rfl]at t0
 obtain⟨y1,t1,b1⟩:=hf 1 _ rfl
 replace t1:DataW.trod enc Tryz.prog w base spare held n 9 (([c0,c1].drop 1).take (Tryz.prog.cellsOf 9))=some y1:=t1
 rw[DX,take_one (c:=c1) rfl]at t1
 obtain⟨s0,n0,rfl,hs0⟩:=adb t0 b0
 obtain⟨n1,rfl,hs1⟩:=DY t1 b1
 exact⟨s0,⟨n0,n1⟩,rfl,hs0,hs1⟩
theorem L8{v:Value}(h:DataW.trod enc Tryz.prog w base spare held fuel 26 [v]=some x)(hb:Rows.uptoBulk x.1≤1048576):∃(s:Sl) (l:List aB),v=.slice s.a l.length s.cap∧eG w s.a l:=by
 obtain⟨s,n,hv,hn,hel⟩:=yG Tryz.underlying26 Hg (by omega) h hb
 obtain⟨l,hl,hr⟩:=wZ (R:=fun i (a:aB)=>∃b o t,s.a=some ⟨b,o,none⟩∧row? w b (o+i*2) 2=some (ak t a)∧bg w t a) (n:=n) (fun i hi=>by
  obtain⟨b,o,cs,f',y,ha,hrow,ht,hby⟩:=hel i hi
  obtain⟨t,p,hcs,hp⟩:=L6 ht hby
  exact⟨p,b,o,t,ha,by rw[hrow,←Array.toList_inj.1 hcs],hp⟩)
 refine⟨s,l,by rw[hl];exact hv,by rw[hl];exact xe hn,fun i hi=>?_⟩
 obtain⟨b,o,t,h1,h2,h3⟩:=hr i l[i] (List.getElem?_eq_getElem hi)
 exact⟨b,o,_,h1,h2,l[i],t,List.getElem?_eq_getElem hi,rfl,h3⟩
theorem TW{v:Value}(h:DataW.trod enc Tryz.prog w base spare held fuel 5 [v]=some x):∃c:UInt8,v=.int .u8 c.toNat:=by
 obtain⟨n,hs,_,hw⟩:=DataW.trod_int Tryz.underlying5 h
 have hw':0≤n∧n≤255:=by
  simp only[Lit.wf,Bool.and_eq_true,decide_eq_true_eq]at hw
  exact⟨hw.1,hw.2⟩
 refine⟨UInt8.ofNat n.toNat,?_⟩
 have e:((UInt8.ofNat n.toNat).toNat:Int)=n:=by
  have:n.toNat<256:=by omega
  rw[UInt8.toNat_ofNat_of_lt' (by simpa using this)];omega
 rw[e];simpa using hs
theorem TY{v:Value}(h:DataW.trod enc Tryz.prog w base spare held fuel 62 [v]=some x)(hb:Rows.uptoBulk x.1≤1048576):∃(s:Sl) (l:List UInt8),v=.slice s.a l.length s.cap∧BytesAt w s.a l:=by
 obtain⟨s,n,hv,hn,hel⟩:=yG Tryz.underlying62 TQ (by omega) h hb
 obtain⟨l,hl,hr⟩:=wZ (R:=fun i (a:UInt8)=>∃b o v,s.a=some ⟨b,o,none⟩∧w.cell? ⟨b,o+i,none⟩=some v∧v=.int .u8 a.toNat) (n:=n) (fun i hi=>by
  obtain⟨b,o,cs,f',y,ha,hrow,ht,hby⟩:=hel i hi
  have hc:=gp hrow 0 (by omega)
  obtain⟨c,hcs⟩:=LY (cs:=cs.toList) (by simpa using yE hrow)
  have e:cs[0]?=some c:=by rw[←Array.getElem?_toList,hcs];rfl
  rw[hcs]at ht
  rw[e]at hc
  obtain⟨a,rfl⟩:=TW ht
  exact⟨a,b,o,_,ha,by simpa using hc,rfl⟩)
 refine⟨s,l,by rw[hl];exact hv,by rw[hl];exact xe hn,fun i hi=>?_⟩
 obtain⟨b,o,v,h1,h2,h3⟩:=hr i l[i] (List.getElem?_eq_getElem hi)
 exact⟨b,o,v,h1,h2,l[i],List.getElem?_eq_getElem hi,h3⟩
theorem ade{cs:List Value}(h:DataW.trod enc Tryz.prog w base spare held fuel 64 cs=some x)(hb:Rows.uptoBulk x.1≤1048576):∃(s:Sl) (p:Key),cs=(bY s p).toList∧kV w s p:=by
 obtain⟨hl,n,hf⟩:=AB Tryz.underlying64 h hb
 rw[TR]at hl
 obtain⟨c0,c1,c2,rfl⟩:=TP hl
 obtain⟨y0,t0,b0⟩:=hf 0 _ rfl
 replace t0:DataW.trod enc Tryz.prog w base spare held n 3 (([c0,c1,c2].drop 0).take (Tryz.prog.cellsOf 3))=some y0:=t0
 rw[iW,take_one (c:=c0) rfl]at t0
 obtain⟨y1,t1,b1⟩:=hf 1 _ rfl
 replace t1:DataW.trod enc Tryz.prog w base spare held n 3 (([c0,c1,c2].drop 1).take (Tryz.prog.cellsOf 3))=some y1:=t1
 rw[iW,take_one (c:=c1) rfl]at t1
 obtain⟨y2,t2,b2⟩:=hf 2 _ rfl
 replace t2:DataW.trod enc Tryz.prog w base spare held n 62 (([c0,c1,c2].drop 2).take (Tryz.prog.cellsOf 62))=some y2:=t2
 rw[TV,take_one (c:=c2) rfl]at t2
 obtain⟨n0,rfl⟩:=iY t0
 clear b0
 obtain⟨n1,rfl⟩:=iY t1
 clear b1
 obtain⟨s2,n2,rfl,hs2⟩:=TY t2 b2
 exact⟨s2,⟨n0,n1,n2⟩,rfl,hs2⟩
theorem adf{v:Value}(h:DataW.trod enc Tryz.prog w base spare held fuel 59 [v]=some x)(hb:Rows.uptoBulk x.1≤1048576):∃(s:Sl) (l:List Key),v=.slice s.a l.length s.cap∧jR w s.a l:=by
 obtain⟨s,n,hv,hn,hel⟩:=yG Tryz.underlying59 TR (by omega) h hb
 obtain⟨l,hl,hr⟩:=wZ (R:=fun i (a:Key)=>∃b o t,s.a=some ⟨b,o,none⟩∧row? w b (o+i*3) 3=some (bY t a)∧kV w t a) (n:=n) (fun i hi=>by
  obtain⟨b,o,cs,f',y,ha,hrow,ht,hby⟩:=hel i hi
  obtain⟨t,p,hcs,hp⟩:=ade ht hby
  exact⟨p,b,o,t,ha,by rw[hrow,←Array.toList_inj.1 hcs],hp⟩)
 refine⟨s,l,by rw[hl];exact hv,by rw[hl];exact xe hn,fun i hi=>?_⟩
 obtain⟨b,o,t,h1,h2,h3⟩:=hr i l[i] (List.getElem?_eq_getElem hi)
 exact⟨b,o,_,h1,h2,l[i],t,List.getElem?_eq_getElem hi,rfl,h3⟩
theorem adg{cs:List Value}(h:DataW.trod enc Tryz.prog w base spare held fuel 61 cs=some x)(hb:Rows.uptoBulk x.1≤1048576):∃(s:Sl) (p:aW),cs=(aV s p).toList∧jG w s p:=by
 obtain⟨hl,n,hf⟩:=AB Tryz.underlying61 h hb
 rw[TS]at hl
 obtain⟨c0,c1,c2,c3,c4,rfl⟩:=ac3 hl
 obtain⟨y0,t0,b0⟩:=hf 0 _ rfl
 replace t0:DataW.trod enc Tryz.prog w base spare held n 3 (([c0,c1,c2,c3,c4].drop 0).take (Tryz.prog.cellsOf 3))=some y0:=t0
 rw[iW,take_one (c:=c0) rfl]at t0
 obtain⟨y1,t1,b1⟩:=hf 1 _ rfl
 replace t1:DataW.trod enc Tryz.prog w base spare held n 59 (([c0,c1,c2,c3,c4].drop 1).take (Tryz.prog.cellsOf 59))=some y1:=t1
 rw[ac9,take_one (c:=c1) rfl]at t1
 obtain⟨y2,t2,b2⟩:=hf 2 _ rfl
 replace t2:DataW.trod enc Tryz.prog w base spare held n 9 (([c0,c1,c2,c3,c4].drop 2).take (Tryz.prog.cellsOf 9))=some y2:=t2
 rw[DX,take_one (c:=c2) rfl]at t2
 obtain⟨y3,t3,b3⟩:=hf 3 _ rfl
 replace t3:DataW.trod enc Tryz.prog w base spare held n 3 (([c0,c1,c2,c3,c4].drop 3).take (Tryz.prog.cellsOf 3))=some y3:=t3
 rw[iW,take_one (c:=c3) rfl]at t3
 obtain⟨y4,t4,b4⟩:=hf 4 _ rfl
 replace t4:DataW.trod enc Tryz.prog w base spare held n 3 (([c0,c1,c2,c3,c4].drop 4).take (Tryz.prog.cellsOf 3))=some y4:=t4
 rw[iW,take_one (c:=c4) rfl]at t4
 obtain⟨n0,rfl⟩:=iY t0
 clear b0
 obtain⟨s1,n1,rfl,hs1⟩:=adf t1 b1
 obtain⟨n2,rfl,hs2⟩:=DY t2 b2
 obtain⟨n3,rfl⟩:=iY t3
 clear b3
 obtain⟨n4,rfl⟩:=iY t4
 clear b4
 exact⟨s1,⟨n0,n1,n2,n3,n4⟩,rfl,hs1,hs2⟩
theorem adh{v:Value}(h:DataW.trod enc Tryz.prog w base spare held fuel 29 [v]=some x)(hb:Rows.uptoBulk x.1≤1048576):∃(s:Sl) (l:List aW),v=.slice s.a l.length s.cap∧jZ w s.a l:=by
 obtain⟨s,n,hv,hn,hel⟩:=yG Tryz.underlying29 TS (by omega) h hb
 obtain⟨l,hl,hr⟩:=wZ (R:=fun i (a:aW)=>∃b o t,s.a=some ⟨b,o,none⟩∧row? w b (o+i*5) 5=some (aV t a)∧jG w t a) (n:=n) (fun i hi=>by
  obtain⟨b,o,cs,f',y,ha,hrow,ht,hby⟩:=hel i hi
  obtain⟨t,p,hcs,hp⟩:=adg ht hby
  exact⟨p,b,o,t,ha,by rw[hrow,←Array.toList_inj.1 hcs],hp⟩)
 refine⟨s,l,by rw[hl];exact hv,by rw[hl];exact xe hn,fun i hi=>?_⟩
 obtain⟨b,o,t,h1,h2,h3⟩:=hr i l[i] (List.getElem?_eq_getElem hi)
 exact⟨b,o,_,h1,h2,l[i],t,List.getElem?_eq_getElem hi,rfl,h3⟩
theorem adi{v:Value}(h:DataW.trod enc Tryz.prog w base spare held fuel 30 [v]=some x)(hb:Rows.uptoBulk x.1≤1048576):∃(s:Sl) (l:List (List UInt8)),v=.slice s.a l.length s.cap∧lL w s.a l:=by
 obtain⟨s,n,hv,hn,hel⟩:=yG Tryz.underlying30 TV (by omega) h hb
 obtain⟨l,hl,hr⟩:=wZ (R:=fun i (a:(List UInt8))=>∃b o v,s.a=some ⟨b,o,none⟩∧w.cell? ⟨b,o+i,none⟩=some v∧∃s':Sl,v=.slice s'.a a.length s'.cap∧BytesAt w s'.a a) (n:=n) (fun i hi=>by
  obtain⟨b,o,cs,f',y,ha,hrow,ht,hby⟩:=hel i hi
  have hc:=gp hrow 0 (by omega)
  obtain⟨c,hcs⟩:=LY (cs:=cs.toList) (by simpa using yE hrow)
  have e:cs[0]?=some c:=by rw[←Array.getElem?_toList,hcs];rfl
  rw[hcs]at ht
  rw[e]at hc
  obtain⟨s',a,rfl,hs'⟩:=TY ht hby
  exact⟨a,b,o,_,ha,by simpa using hc,s',rfl,hs'⟩)
 refine⟨s,l,by rw[hl];exact hv,by rw[hl];exact xe hn,fun i hi=>?_⟩
 obtain⟨b,o,v,h1,h2,h3⟩:=hr i l[i] (List.getElem?_eq_getElem hi)
 obtain⟨s',h4,h5⟩:=h3
 exact⟨b,o,v,h1,h2,l[i],s',List.getElem?_eq_getElem hi,h4,h5⟩
end
end Go.Proofs.YtaghcadlgbnbdaaGreatDoor
namespace Go.Proofs.YtaghcadlgbnbdaaGreatDoor
open Go.ChangeShapes Go.WideShapes Go.ChangeAt Go.RowKit Go.WW Go.Deep
section
variable {H:Type} {enc:TypeId×Value→H} {w:World} {base:Nat} {spare:Nat→Bool} {held:Bool} {fuel:Nat} {x:DataW H×List MemPlace}
theorem adk{v:Value}(h:DataW.trod enc Tryz.prog w base spare held fuel 28 [v]=some x):∃n:Int,v=.int .u32 n∧0≤n∧n≤4294967295:=by
 obtain⟨n,hs,_,hw⟩:=DataW.trod_int Tryz.underlying28 h
 simp only[Lit.wf,Bool.and_eq_true,decide_eq_true_eq]at hw
 exact⟨n,by simpa using hs,hw.1,hw.2⟩
theorem adl{cs:List Value}(h:DataW.trod enc Tryz.prog w base spare held fuel 32 cs=some x)(hb:Rows.uptoBulk x.1≤1048576):∃(r:aI) (d:Entry),cs=(ae r d).toList∧bz w r d:=by
 obtain⟨hl,n,hf⟩:=AB Tryz.underlying32 h hb
 rw[TT]at hl
 obtain⟨c0,c1,c2,c3,c4,c5,c6,c7,c8,c9,c10,c11,c12,c13,c14,c15,c16,rfl⟩:=ac5 hl
 obtain⟨y0,t0,b0⟩:=hf 0 _ rfl
 replace t0:DataW.trod enc Tryz.prog w base spare held n 25 (([c0,c1,c2,c3,c4,c5,c6,c7,c8,c9,c10,c11,c12,c13,c14,c15,c16].drop 0).take (Tryz.prog.cellsOf 25))=some y0:=t0
 rw[Hg]at t0
 replace t0:DataW.trod enc Tryz.prog w base spare held n 25 [c0,c1]=some y0:=t0
 obtain⟨y1,t1,b1⟩:=hf 1 _ rfl
 replace t1:DataW.trod enc Tryz.prog w base spare held n 26 (([c0,c1,c2,c3,c4,c5,c6,c7,c8,c9,c10,c11,c12,c13,c14,c15,c16].drop 2).take (Tryz.prog.cellsOf 26))=some y1:=t1
 rw[LZ,take_one (c:=c2) rfl]at t1
 obtain⟨y2,t2,b2⟩:=hf 2 _ rfl
 replace t2:DataW.trod enc Tryz.prog w base spare held n 28 (([c0,c1,c2,c3,c4,c5,c6,c7,c8,c9,c10,c11,c12,c13,c14,c15,c16].drop 3).take (Tryz.prog.cellsOf 28))=some y2:=t2
 rw[ac6,take_one (c:=c3) rfl]at t2
 obtain⟨y3,t3,b3⟩:=hf 3 _ rfl
 replace t3:DataW.trod enc Tryz.prog w base spare held n 3 (([c0,c1,c2,c3,c4,c5,c6,c7,c8,c9,c10,c11,c12,c13,c14,c15,c16].drop 4).take (Tryz.prog.cellsOf 3))=some y3:=t3
 rw[iW,take_one (c:=c4) rfl]at t3
 obtain⟨y4,t4,b4⟩:=hf 4 _ rfl
 replace t4:DataW.trod enc Tryz.prog w base spare held n 29 (([c0,c1,c2,c3,c4,c5,c6,c7,c8,c9,c10,c11,c12,c13,c14,c15,c16].drop 5).take (Tryz.prog.cellsOf 29))=some y4:=t4
 rw[ac8,take_one (c:=c5) rfl]at t4
 obtain⟨y5,t5,b5⟩:=hf 5 _ rfl
 replace t5:DataW.trod enc Tryz.prog w base spare held n 9 (([c0,c1,c2,c3,c4,c5,c6,c7,c8,c9,c10,c11,c12,c13,c14,c15,c16].drop 6).take (Tryz.prog.cellsOf 9))=some y5:=t5
 rw[DX,take_one (c:=c6) rfl]at t5
 obtain⟨y6,t6,b6⟩:=hf 6 _ rfl
 replace t6:DataW.trod enc Tryz.prog w base spare held n 3 (([c0,c1,c2,c3,c4,c5,c6,c7,c8,c9,c10,c11,c12,c13,c14,c15,c16].drop 7).take (Tryz.prog.cellsOf 3))=some y6:=t6
 rw[iW,take_one (c:=c7) rfl]at t6
 obtain⟨y7,t7,b7⟩:=hf 7 _ rfl
 replace t7:DataW.trod enc Tryz.prog w base spare held n 3 (([c0,c1,c2,c3,c4,c5,c6,c7,c8,c9,c10,c11,c12,c13,c14,c15,c16].drop 8).take (Tryz.prog.cellsOf 3))=some y7:=t7
 rw[iW,take_one (c:=c8) rfl]at t7
 obtain⟨y8,t8,b8⟩:=hf 8 _ rfl
 replace t8:DataW.trod enc Tryz.prog w base spare held n 3 (([c0,c1,c2,c3,c4,c5,c6,c7,c8,c9,c10,c11,c12,c13,c14,c15,c16].drop 9).take (Tryz.prog.cellsOf 3))=some y8:=t8
 rw[iW,take_one (c:=c9) rfl]at t8
 obtain⟨y9,t9,b9⟩:=hf 9 _ rfl
 replace t9:DataW.trod enc Tryz.prog w base spare held n 3 (([c0,c1,c2,c3,c4,c5,c6,c7,c8,c9,c10,c11,c12,c13,c14,c15,c16].drop 10).take (Tryz.prog.cellsOf 3))=some y9:=t9
 rw[iW,take_one (c:=c10) rfl]at t9
 obtain⟨y10,t10,b10⟩:=hf 10 _ rfl
 replace t10:DataW.trod enc Tryz.prog w base spare held n 3 (([c0,c1,c2,c3,c4,c5,c6,c7,c8,c9,c10,c11,c12,c13,c14,c15,c16].drop 11).take (Tryz.prog.cellsOf 3))=some y10:=t10
 rw[iW,take_one (c:=c11) rfl]at t10
 obtain⟨y11,t11,b11⟩:=hf 11 _ rfl
 replace t11:DataW.trod enc Tryz.prog w base spare held n 3 (([c0,c1,c2,c3,c4,c5,c6,c7,c8,c9,c10,c11,c12,c13,c14,c15,c16].drop 12).take (Tryz.prog.cellsOf 3))=some y11:=t11
 rw[iW,take_one (c:=c12) rfl]at t11
 obtain⟨y12,t12,b12⟩:=hf 12 _ rfl
 replace t12:DataW.trod enc Tryz.prog w base spare held n 3 (([c0,c1,c2,c3,c4,c5,c6,c7,c8,c9,c10,c11,c12,c13,c14,c15,c16].drop 13).take (Tryz.prog.cellsOf 3))=some y12:=t12
 rw[iW,take_one (c:=c13) rfl]at t12
 obtain⟨y13,t13,b13⟩:=hf 13 _ rfl
 replace t13:DataW.trod enc Tryz.prog w base spare held n 26 (([c0,c1,c2,c3,c4,c5,c6,c7,c8,c9,c10,c11,c12,c13,c14,c15,c16].drop 14).take (Tryz.prog.cellsOf 26))=some y13:=t13
 rw[LZ,take_one (c:=c14) rfl]at t13
 obtain⟨y14,t14,b14⟩:=hf 14 _ rfl
 replace t14:DataW.trod enc Tryz.prog w base spare held n 26 (([c0,c1,c2,c3,c4,c5,c6,c7,c8,c9,c10,c11,c12,c13,c14,c15,c16].drop 15).take (Tryz.prog.cellsOf 26))=some y14:=t14
 rw[LZ,take_one (c:=c15) rfl]at t14
 obtain⟨y15,t15,b15⟩:=hf 15 _ rfl
 replace t15:DataW.trod enc Tryz.prog w base spare held n 30 (([c0,c1,c2,c3,c4,c5,c6,c7,c8,c9,c10,c11,c12,c13,c14,c15,c16].drop 16).take (Tryz.prog.cellsOf 30))=some y15:=t15
 rw[ada,take_one (c:=c16) rfl]at t15
 obtain⟨s0,n0,e0,hs0⟩:=L6 t0 b0
 obtain⟨rfl,rfl⟩:c0=.slice s0.a n0.parts.length s0.cap∧c1=.string n0.aG:=by simpa[ak]using e0
 obtain⟨s1,n1,rfl,hs1⟩:=L8 t1 b1
 obtain⟨n2,rfl,hs2⟩:=adk t2
 clear b2
 obtain⟨n3,rfl⟩:=iY t3
 clear b3
 obtain⟨s4,n4,rfl,hs4⟩:=adh t4 b4
 obtain⟨n5,rfl,hs5⟩:=DY t5 b5
 obtain⟨n6,rfl⟩:=iY t6
 clear b6
 obtain⟨n7,rfl⟩:=iY t7
 clear b7
 obtain⟨n8,rfl⟩:=iY t8
 clear b8
 obtain⟨n9,rfl⟩:=iY t9
 clear b9
 obtain⟨n10,rfl⟩:=iY t10
 clear b10
 obtain⟨n11,rfl⟩:=iY t11
 clear b11
 obtain⟨n12,rfl⟩:=iY t12
 clear b12
 obtain⟨s13,n13,rfl,adr⟩:=L8 t13 b13
 obtain⟨s14,n14,rfl,ads⟩:=L8 t14 b14
 obtain⟨s15,n15,rfl,adt⟩:=adi t15 b15
 exact⟨⟨s0,s1,s4,s13,s14,s15⟩,⟨n0,n1,n2,n3,n4,n5,n6,n7,n8,n9,n10,n11,n12,n13,n14,n15⟩,rfl,⟨hs0,hs1,hs4,adr,ads,adt,hs5,hs2⟩⟩
theorem adu{cs:List Value}(h:DataW.trod enc Tryz.prog w base spare held fuel 35 cs=some x)(hb:Rows.uptoBulk x.1≤1048576):∃p:ah,cs=(az p).toList∧p.name.size≤lim:=by
 obtain⟨hl,n,hf⟩:=AB Tryz.underlying35 h hb
 rw[TU]at hl
 obtain⟨c0,c1,c2,c3,c4,c5,c6,c7,c8,c9,rfl⟩:=ac4 hl
 obtain⟨y0,t0,b0⟩:=hf 0 _ rfl
 replace t0:DataW.trod enc Tryz.prog w base spare held n 9 (([c0,c1,c2,c3,c4,c5,c6,c7,c8,c9].drop 0).take (Tryz.prog.cellsOf 9))=some y0:=t0
 rw[DX,take_one (c:=c0) rfl]at t0
 obtain⟨y1,t1,b1⟩:=hf 1 _ rfl
 replace t1:DataW.trod enc Tryz.prog w base spare held n 3 (([c0,c1,c2,c3,c4,c5,c6,c7,c8,c9].drop 1).take (Tryz.prog.cellsOf 3))=some y1:=t1
 rw[iW,take_one (c:=c1) rfl]at t1
 obtain⟨y2,t2,b2⟩:=hf 2 _ rfl
 replace t2:DataW.trod enc Tryz.prog w base spare held n 3 (([c0,c1,c2,c3,c4,c5,c6,c7,c8,c9].drop 2).take (Tryz.prog.cellsOf 3))=some y2:=t2
 rw[iW,take_one (c:=c2) rfl]at t2
 obtain⟨y3,t3,b3⟩:=hf 3 _ rfl
 replace t3:DataW.trod enc Tryz.prog w base spare held n 3 (([c0,c1,c2,c3,c4,c5,c6,c7,c8,c9].drop 3).take (Tryz.prog.cellsOf 3))=some y3:=t3
 rw[iW,take_one (c:=c3) rfl]at t3
 obtain⟨y4,t4,b4⟩:=hf 4 _ rfl
 replace t4:DataW.trod enc Tryz.prog w base spare held n 3 (([c0,c1,c2,c3,c4,c5,c6,c7,c8,c9].drop 4).take (Tryz.prog.cellsOf 3))=some y4:=t4
 rw[iW,take_one (c:=c4) rfl]at t4
 obtain⟨y5,t5,b5⟩:=hf 5 _ rfl
 replace t5:DataW.trod enc Tryz.prog w base spare held n 3 (([c0,c1,c2,c3,c4,c5,c6,c7,c8,c9].drop 5).take (Tryz.prog.cellsOf 3))=some y5:=t5
 rw[iW,take_one (c:=c5) rfl]at t5
 obtain⟨y6,t6,b6⟩:=hf 6 _ rfl
 replace t6:DataW.trod enc Tryz.prog w base spare held n 3 (([c0,c1,c2,c3,c4,c5,c6,c7,c8,c9].drop 6).take (Tryz.prog.cellsOf 3))=some y6:=t6
 rw[iW,take_one (c:=c6) rfl]at t6
 obtain⟨y7,t7,b7⟩:=hf 7 _ rfl
 replace t7:DataW.trod enc Tryz.prog w base spare held n 3 (([c0,c1,c2,c3,c4,c5,c6,c7,c8,c9].drop 7).take (Tryz.prog.cellsOf 3))=some y7:=t7
 rw[iW,take_one (c:=c7) rfl]at t7
 obtain⟨y8,t8,b8⟩:=hf 8 _ rfl
 replace t8:DataW.trod enc Tryz.prog w base spare held n 3 (([c0,c1,c2,c3,c4,c5,c6,c7,c8,c9].drop 8).take (Tryz.prog.cellsOf 3))=some y8:=t8
 rw[iW,take_one (c:=c8) rfl]at t8
 obtain⟨y9,t9,b9⟩:=hf 9 _ rfl
 replace t9:DataW.trod enc Tryz.prog w base spare held n 3 (([c0,c1,c2,c3,c4,c5,c6,c7,c8,c9].drop 9).take (Tryz.prog.cellsOf 3))=some y9:=t9
 rw[iW,take_one (c:=c9) rfl]at t9
 obtain⟨n0,rfl,hs0⟩:=DY t0 b0
 obtain⟨n1,rfl⟩:=iY t1
 clear b1
 obtain⟨n2,rfl⟩:=iY t2
 clear b2
 obtain⟨n3,rfl⟩:=iY t3
 clear b3
 obtain⟨n4,rfl⟩:=iY t4
 clear b4
 obtain⟨n5,rfl⟩:=iY t5
 clear b5
 obtain⟨n6,rfl⟩:=iY t6
 clear b6
 obtain⟨n7,rfl⟩:=iY t7
 clear b7
 obtain⟨n8,rfl⟩:=iY t8
 clear b8
 obtain⟨n9,rfl⟩:=iY t9
 clear b9
 exact⟨⟨n0,n1,n2,n3,n4,n5,n6,n7,n8,n9⟩,rfl,hs0⟩
end
end Go.Proofs.YtaghcadlgbnbdaaGreatDoor
namespace Go.WW
structure yH{α:Type}(c:α→α→Int):Prop where
 zero:∀a b,c a b=0↔a=b
 tX:∀a b,c b a=- c a b
 trans:∀a b d,c a b<0→c b d<0→c a d<0
theorem L9:∀l:List UInt8,Op.bytesLess l l=false
 | []=>rfl
 |a::l=>by simp[Op.bytesLess,L9 l]
theorem Mc:∀a b:List UInt8,Op.bytesLess a b=false→Op.bytesLess b a=false→a=b
 | [],[],_,_=>rfl
 | [],_::_,h,_=>by simp[Op.bytesLess]at h
 |_::_,[],_,h=>by simp[Op.bytesLess]at h
 |a::x,b::y,h,h'=>by
  simp only[Op.bytesLess,Bool.or_eq_false_iff,decide_eq_false_iff_not,Bool.and_eq_false_iff]at h h'
  have e:a=b:=UInt8.le_antisymm (UInt8.not_lt.1 h'.1) (UInt8.not_lt.1 h.1)
  subst e
  have h1:Op.bytesLess x y=false:=by rcases h.2 with h|h;simp at h;exact h
  have h2:Op.bytesLess y x=false:=by rcases h'.2 with h|h;simp at h;exact h
  rw[Mc x y h1 h2]
theorem Md:∀a b d:List UInt8,Op.bytesLess a b=true→Op.bytesLess b d=true→Op.bytesLess a d=true
 |_,[],_,h,_=>by simp[Op.bytesLess]at h
 |_,_::_,[],_,h=>by simp[Op.bytesLess]at h
 | [],_::_,_::_,_,_=>rfl
 |a::x,b::y,d::z,h,h'=>by
  simp only[Op.bytesLess,Bool.or_eq_true,decide_eq_true_eq,Bool.and_eq_true,beq_iff_eq]at h h' ⊢
  rcases h with h|⟨rfl,h⟩
  ·rcases h' with h'|⟨rfl,h'⟩
   ·exact .inl (UInt8.lt_trans h h')
   ·exact .inl h
  ·rcases h' with h'|⟨rfl,h'⟩
   ·exact .inl h'
   ·exact .inr ⟨rfl,Md x y z h h'⟩
def bQ(a b:ByteArray):Int:=if Op.bytesLess a.toList b.toList then -1 else if Op.bytesLess b.toList a.toList then 1 else 0
theorem toList_inj{a b:ByteArray}(h:a.toList=b.toList):a=b:=by
 rw[ByteArray.toList_eq,ByteArray.toList_eq]at h;exact WideShapes.bytes_inj h
theorem oO:yH bQ where
 zero a b:=by
  unfold bQ
  constructor
  ·intro h
   split at h
   ·omega
   ·split at h
    ·omega
    ·rename_i h1 h2
     exact toList_inj (Mc _ _ (by simpa using h1) (by simpa using h2))
  ·rintro rfl;simp[L9]
 tX a b:=by
  unfold bQ
  cases h1:Op.bytesLess a.toList b.toList<;>cases h2:Op.bytesLess b.toList a.toList<;>simp
  have:=Md _ _ _ h1 h2
  rw[L9]at this;cases this
 trans a b d h1 h2:=by
  unfold bQ at *
  have e1:Op.bytesLess a.toList b.toList=true:=by
   cases h:Op.bytesLess a.toList b.toList
   ·rw[h]at h1;cases h':Op.bytesLess b.toList a.toList<;>rw[h']at h1<;>simp at h1
   ·rfl
  have e2:Op.bytesLess b.toList d.toList=true:=by
   cases h:Op.bytesLess b.toList d.toList
   ·rw[h]at h2;cases h':Op.bytesLess d.toList b.toList<;>rw[h']at h2<;>simp at h2
   ·rfl
  rw[Md _ _ _ e1 e2];simp
def cmpL{α:Type}(c:α→α→Int):List α→List α→Int
 | [],[]=>0
 | [],_::_=>-1
 |_::_,[]=>1
 |a::x,b::y=>if c a b=0 then cmpL c x y else c a b
theorem Me{α:Type}{c:α→α→Int}(h:yH c):yH (cmpL c) where
 zero a:=by
  induction a with
  |nil=>intro b;cases b<;>simp[cmpL]
  |cons a x ih=>
   intro b
   cases b with
   |nil=>simp[cmpL]
   |cons b y=>
    unfold cmpL
    by_cases e:c a b=0
    ·rw[if_pos e,ih];rw[h.zero]at e;simp[e]
    ·rw[if_neg e]
     constructor
     ·intro h';exact absurd h' e
     ·intro h';injection h' with h1 h2;exact absurd ((h.zero a b).2 h1) e
 tX a:=by
  induction a with
  |nil=>intro b;cases b<;>simp[cmpL]
  |cons a x ih=>
   intro b
   cases b with
   |nil=>simp[cmpL]
   |cons b y=>
    unfold cmpL
    rw[h.tX a b]
    by_cases e:c a b=0
    ·rw[if_pos e,if_pos (by omega),ih]
    ·rw[if_neg e,if_neg (by omega)]
 trans a:=by
  induction a with
  |nil=>intro b d;cases b<;>cases d<;>simp[cmpL]
  |cons a x ih=>
   intro b d
   cases b with
   |nil=>simp[cmpL]
   |cons b y=>
    cases d with
    |nil=>intro _ h2;simp[cmpL]at h2
    |cons d z=>
     unfold cmpL
     by_cases e:c a b=0
     ·rw[if_pos e]
      rw[h.zero]at e;subst e
      by_cases e2:c a d=0
      ·rw[if_pos e2,if_pos e2];exact ih y z
      ·rw[if_neg e2,if_neg e2];intro _ h2;exact h2
     ·rw[if_neg e]
      by_cases e2:c b d=0
      ·rw[if_pos e2]
       rw[h.zero]at e2;subst e2
       rw[if_neg e];intro h1 _;exact h1
      ·rw[if_neg e2]
       intro h1 h2
       have h3:=h.trans _ _ _ h1 h2
       rw[if_neg (by omega)];exact h3
def nR:List ByteArray→List ByteArray→Int:=cmpL bQ
def dV(p q:aB):Int:=if bQ p.aG q.aG=0 then nR p.parts q.parts else bQ p.aG q.aG
theorem MC:yH dV where
 zero p q:=by
  have h1:=oO.zero p.aG q.aG
  have h2:=(Me oO).zero p.parts q.parts
  unfold dV
  by_cases e:bQ p.aG q.aG=0
  ·rw[if_pos e];show cmpL bQ p.parts q.parts=0↔_
   rw[h2]
   rw[h1]at e
   cases p;cases q;simp_all
  ·rw[if_neg e]
   constructor
   ·intro h;exact absurd h e
   ·rintro rfl;exact absurd (h1.2 rfl) e
 tX p q:=by
  unfold dV
  rw[oO.tX p.aG q.aG]
  by_cases e:bQ p.aG q.aG=0
  ·rw[if_pos e,if_pos (by omega)];exact(Me oO).tX _ _
  ·rw[if_neg e,if_neg (by omega)]
 trans p q t:=by
  unfold dV
  by_cases e:bQ p.aG q.aG=0
  ·rw[if_pos e]
   rw[oO.zero]at e;rw[e]
   by_cases e2:bQ q.aG t.aG=0
   ·rw[if_pos e2,if_pos e2];exact(Me oO).trans _ _ _
   ·rw[if_neg e2,if_neg e2];intro _ h;exact h
  ·rw[if_neg e]
   by_cases e2:bQ q.aG t.aG=0
   ·rw[if_pos e2]
    rw[oO.zero]at e2;rw[←e2,if_neg e]
    intro h _;exact h
   ·rw[if_neg e2]
    intro h1 h2
    have h3:=oO.trans _ _ _ h1 h2
    rw[if_neg (by omega)];exact h3
section
variable {α β:Type} {c:β→β→Int} (k:α→β)
def Sorted(c:β→β→Int)(k:α→β)(l:List α):Prop:=l.Pairwise fun a b=>c (k a) (k b)<0
def jH(c:β→β→Int)(k:α→β)(e:α):List α→List α
 | []=>[e]
 |d::l=>if c (k e) (k d)<0 then e::d::l else d::jH c k e l
theorem xg(e:α):∀l:List α,(jH c k e l).Perm (e::l)
 | []=>List.Perm.refl _
 |d::l=>by
  unfold jH
  split
  ·exact List.Perm.refl _
  ·exact((xg e l).cons d).trans (List.Perm.swap e d l)
theorem TZ(h:yH c)(e:α):∀l:List α,Sorted c k l→(∀d∈l,k d≠k e)→Sorted c k (jH c k e l)
 | [],_,_=>by simp[jH,Sorted]
 |d::l,hs,hn=>by
  have hs':=List.pairwise_cons.1 hs
  unfold jH
  split
  ·rename_i hlt
   refine List.pairwise_cons.2 ⟨fun x hx=>?_,hs⟩
   rcases List.mem_cons.1 hx with rfl|hx
   ·exact hlt
   ·exact h.trans _ _ _ hlt (hs'.1 x hx)
  ·rename_i hge
   refine List.pairwise_cons.2 ⟨fun x hx=>?_,TZ h e l hs'.2 (fun y hy=>hn y (by simp[hy]))⟩
   have hx':=(xg k e l).mem_iff.1 hx
   rcases List.mem_cons.1 hx' with rfl|hx
   ·have h0:c (k d) (k x)≠0:=fun e0=>hn d (by simp) ((h.zero _ _).1 e0)
    have h1:=h.tX (k d) (k x)
    omega
   ·exact hs'.1 x hx
end
end Go.WW
