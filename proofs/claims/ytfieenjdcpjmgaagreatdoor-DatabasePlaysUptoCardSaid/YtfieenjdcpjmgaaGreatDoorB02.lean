/- A part of the proof. -/
import Derived.WalkKit
import Derived.WalkLawsBesides
import Derived.WalkSpells
import Derived.Deep.QuietTactic
import Derived.BigQuiet
import Derived.Deep.MidRow
import Derived.Lib.Hide
import Derived.KernelRfl
namespace Go.WW
open Go.RowKit
def row?(w:World)(b o n:Nat):Option (Array Value):=
 match w.heap[b]? with
 |some (.cells c _ _)=>if o+n≤c.size then some (c.extract o (o+n))else none
 |_=>none
theorem gZ{w w':World}{b:Nat}(h:w'.heap[b]?=w.heap[b]?)(o n:Nat):row? w' b o n=row? w b o n:=by simp[row?,h]
theorem x9{w:World}{b o n:Nat}{cs:Array Value}(h:row? w b o n=some cs):cs.size=n:=by
 unfold row? at h
 split at h
 ·split at h
  ·cases h;simp;omega
  ·cases h
 ·cases h
theorem gX{w:World}{b o n:Nat}{cs:Array Value}(h:row? w b o n=some cs)(j:Nat)(hj:j<n):w.cell? ⟨b,o+j,none⟩=cs[j]?:=by
 unfold row? at h
 split at h
 ·rename_i c t f hb
  split at h
  ·cases h
   rw[cell_of_row w b (o+j) c t f hb]
   simp[Array.getElem?_extract]
   intro h1;omega
  ·cases h
 ·cases h
theorem gm{w:World}{b o n:Nat}{cs:Array Value}(h:row? w b o n=some cs):b<w.heap.size:=by
 unfold row? at h
 split at h
 ·rename_i hb;exact(Array.getElem?_eq_some_iff.1 hb).1
 ·cases h
theorem Qw{w:World}{b o n:Nat}{cs:Array Value}(h:row? w b o n=some cs):w.rangeAt b o cs.toList:=by
 intro j v hv
 have hs:=x9 h
 have hj:j<n:=by
  have:=(List.getElem?_eq_some_iff.1 hv).1;simp at this;omega
 rw[gX h j hj];simpa using hv
def jU(T:TypeId)(v:Value):Sem Next:=do pure (.value (←Instr.loadAt T v))
def qJ(P:Program)(T:TypeId)(w:World)(b o:Nat):Option (Array Value)→Result Next
 |some cs=>.ok (.value (.agg cs)) w
 |none=>(jU T (.pointer (some ⟨b,o,none⟩))).run P w
theorem Qx(P:Program)(T:TypeId)(w:World)(b o:Nat)(cs:Array Value):qJ P T w b o (some cs)=.ok (.value (.agg cs)) w:=rfl
theorem uM{P:Program}{T:TypeId}{d:TypeDesc}{n:Nat}(hu:P.underlying T=some d)(hd:d.isRow=true)(hi:(P.info? T).map (·.size)=some n)(w:World)(b o:Nat) :
  (jU T (.pointer (some ⟨b,o,none⟩))).run P w=qJ P T w b o (row? w b o n):=by
 cases h:row? w b o n with
 |none=>rfl
 |some cs=>
  rw[Qx]
  have hs:=x9 h
  have:=run_loadAt_mid (P:=P) w b o T cs.toList d (Qw h) hu hd (by rw[hi];simp[hs])
  simp only[jU,Sem.run_bind,this,Result.andThen_ok,Sem.run_pure]
theorem aa6{w:World}{cs:Array Value}{t:TypeId}{k n:Nat}(hk:k=w.heap.size)(hn:cs.size=n):row? (w.alloc (.cells cs t)) k 0 n=some cs:=by
 subst hk;subst hn
 have:(w.alloc (.cells cs t)).heap[w.heap.size]?=some (.cells cs t):=by show(w.heap.push _)[w.heap.size]?=_;simp
 unfold row?;rw[this];simp
def fO(cs:Array Value)(o n:Nat):Option (Array Value):=if o+n≤cs.size then some (cs.extract o (o+n))else none
theorem df{cs:Array Value}{n:Nat}(hn:cs.size=n):fO cs 0 n=some cs:=by subst hn;simp[fO]
theorem Fj{w:World}{cs:Array Value}{t:TypeId}{k o n:Nat}(hk:k=w.heap.size):row? (w.alloc (.cells cs t)) k o n=fO cs o n:=by
 subst hk
 have:(w.alloc (.cells cs t)).heap[w.heap.size]?=some (.cells cs t):=by show(w.heap.push _)[w.heap.size]?=_;simp
 unfold row? fO;rw[this]
theorem Qy{w:World}{ob:Obj}{k o n:Nat}(hk:k<w.heap.size):row? (w.alloc ob) k o n=row? w k o n:=
 gZ (Below.heap_alloc w ob k hk) o n
theorem aa7(w:World)(k o n:Nat):row? w.drew k o n=row? w k o n:=rfl
theorem aa8{w:World}{p:Addr}{v:Value}{k o n:Nat}(h:k≠p.block):row? (w.setCell p v) k o n=row? w k o n:=
 gZ (Below.heap_setCell w p v k h) o n
def kU(T:TypeId)(p v:Value):Sem Next:=do Instr.storeAt T p v;pure .skip
def aS(w:World)(b o n:Nat):Bool:=
 match w.heap[b]? with
 |some (.cells c _ f)=>decide (o+n≤c.size)&&decide (f=(0,0))
 |_=>false
def putRow(w:World)(b o:Nat)(cs:Array Value):World:=w.setCells b o cs.toList
def sQ(P:Program)(T:TypeId)(w:World)(b o:Nat)(cs:Array Value):Bool→Result Next
 |true=>.ok .skip (putRow w b o cs)
 |false=>(kU T (.pointer (some ⟨b,o,none⟩)) (.agg cs)).run P w
theorem Fp(P:Program)(T:TypeId)(w:World)(b o:Nat)(cs:Array Value):sQ P T w b o cs true=.ok .skip (putRow w b o cs):=rfl
theorem Qz{w:World}{b o n:Nat}(h:aS w b o n=true):w.there b o n:=by
 unfold aS at h
 split at h
 ·rename_i c t f hb
  simp only[Bool.and_eq_true,decide_eq_true_eq]at h
  obtain⟨h1,rfl⟩:=h
  intro j hj
  exact⟨by rw[cell_of_row w b (o+j) c t _ hb];simp;omega,frozen_of_row w b (o+j) c t hb⟩
 ·cases h
def dJ(cs:Array Value):Bool:=cs.all (·.oneCell')
theorem wK{P:Program}{T:TypeId}{n:Nat}(hi:(P.info? T).map (·.size)=some n)(w:World)(b o:Nat)(cs:Array Value)(hn:cs.size=n)(h1:dJ cs=true) :
  (kU T (.pointer (some ⟨b,o,none⟩)) (.agg cs)).run P w=sQ P T w b o cs (aS w b o n):=by
 cases h:aS w b o n with
 |false=>rfl
 |true=>
  rw[Fp]
  have:=run_storeAt_mid (P:=P) w b o T cs (by rw[hn];exact Qz h) (by rw[hi,hn]) h1
  simp only[kU,Sem.run_bind,this,Result.andThen_ok,Sem.run_pure]
  rfl
theorem aa9{w:World}{cs:Array Value}{t:TypeId}{k o n:Nat}(hk:k=w.heap.size)(hn:o+n≤cs.size):aS (w.alloc (.cells cs t)) k o n=true:=by
 subst hk
 have:(w.alloc (.cells cs t)).heap[w.heap.size]?=some (.cells cs t):=by show(w.heap.push _)[w.heap.size]?=_;simp
 unfold aS;rw[this];simp[hn]
theorem JC{w:World}{ob:Obj}{k o n:Nat}(hk:k<w.heap.size):aS (w.alloc ob) k o n=aS w k o n:=by
 unfold aS;rw[Below.heap_alloc w ob k hk]
theorem sS{w w':World}{b:Nat}(h:w'.heap[b]?=w.heap[b]?)(o n:Nat):aS w' b o n=aS w b o n:=by unfold aS;rw[h]
theorem QC(w:World)(t:TypeId):∀(l:List Value) (o:Nat) (c:Array Value),(w.alloc (.cells c t)).setCells w.heap.size o l=w.alloc (.cells ((l.zipIdx o).foldl (fun c x=>c.setIfInBounds x.2 x.1) c) t)
 | [],_,_=>rfl
 |v::l,o,c=>by
  rw[World.setCells,World.setCell_alloc_at _ _ _ _ _ rfl,QC w t l (o+1)]
  rfl
theorem QE(pre:List Value):∀(l m:List Value),l.length=m.length→
  ((m.zipIdx pre.length).foldl (fun(c:Array Value) x=>c.setIfInBounds x.2 x.1) (pre++l).toArray)=(pre++m).toArray
 | [],[],_=>by simp
 |x::l,y::m,h=>by
  have ih:=QE (pre++[y]) l m (by simpa using h)
  simp only[List.zipIdx_cons,List.foldl_cons]
  have e:(pre++x::l).toArray.setIfInBounds pre.length y=((pre++[y])++l).toArray:=by simp
  rw[e]
  simpa using ih
theorem aba{w:World}{c cs:Array Value}{t:TypeId}{k:Nat}(hk:k=w.heap.size)(hn:c.size=cs.size):putRow (w.alloc (.cells c t)) k 0 cs=w.alloc (.cells cs t):=by
 subst hk
 unfold putRow
 rw[QC]
 have:=QE [] c.toList cs.toList (by simpa using hn)
 simp only[List.length_nil,List.nil_append]at this
 have e:c.toList.toArray=c:=by simp
 rw[e]at this
 rw[this]
attribute [go_sem] Fp aa9 JC aba
structure Later(W:World) where
 w:World
 b:Below W.heap.size W w
instance {W:World}:Nonempty (Later W):=⟨⟨W,Below.refl _ _⟩⟩
section
variable {W:World} (x:Later W) (b o:Nat) (h:b<W.heap.size)
include h
theorem Later.cell:x.w.cell? ⟨b,o,none⟩=W.cell? ⟨b,o,none⟩:=x.b.cell (p:=⟨b,o,none⟩) h
theorem Later.frozen:x.w.frozen? ⟨b,o,none⟩=W.frozen? ⟨b,o,none⟩:=x.b.frozen (p:=⟨b,o,none⟩) h
theorem Later.row(n:Nat):row? x.w b o n=row? W b o n:=gZ (x.b.block b h) o n
end
theorem dM{P:Program}{id:Nat}{Q:Exit→Act→World→Prop}{a:Act}{W w:World}{l:List Oper}(hW:Below W.heap.size W w)(hm:P.follows .mixedOrders=true)(hB:Region.lexB .any l.toArray=true)
  (h:wpQuiet P l.toArray (fun w'=>∃x:Later W,w'=x.w) (fun a'=>∀w',Below W.heap.size W w'→Q .normal a' w') l a):(Code.region id l.toArray true).wp P Q a w:=by
 refine wp_region_quiet (C:=fun w'=>∃x:Later W,w'=x.w) hm hB ⟨⟨w.drew,hW.drew⟩,rfl⟩ ?_
 have:(fun a'=>∀w',(∃x:Later W,w'=x.w)→Q .normal a' w')=(fun a'=>∀w',Below W.heap.size W w'→Q .normal a' w'):=by
  funext a';apply propext
  exact⟨fun h w' hw'=>h w' ⟨⟨w',hw'⟩,rfl⟩,fun h w' ⟨x,hx⟩=>hx▸h _ x.b⟩
 rw[this]
 simpa using h
theorem Calls.BV{P:Program}{f:FuncId}{args:Array Value}{W:World}{x:Later W}{v:Value}
  (h:Calls P f args x.w fun e w'=>e=.returned v∧x.w=w'):Calls P f args x.w fun e w''=>e=.returned v∧∃y:Later W,w''=y.w:=
 h.mono fun _ _ ⟨he,hb⟩=>⟨he,x,hb.symm⟩
theorem Calls.gz{P:Program}{f:FuncId}{args:Array Value}{W:World}{x:Later W}{v:Value}
  (h:Calls P f args x.w fun e w'=>e=.returned v∧Below x.w.heap.size x.w w'):Calls P f args x.w fun e w''=>e=.returned v∧∃y:Later W,w''=y.w:=
 h.mono fun _ w' ⟨he,hb⟩=>⟨he,⟨w',x.b.trans (hb.mono x.b.size)⟩,rfl⟩
theorem bg{W w1:World}(hb:Below W.heap.size W w1):(∀b o,b<W.heap.size→w1.cell? ⟨b,o,none⟩=W.cell? ⟨b,o,none⟩)∧(∀b o,b<W.heap.size→w1.frozen? ⟨b,o,none⟩=W.frozen? ⟨b,o,none⟩)∧
  (∀b o n,b<W.heap.size→row? w1 b o n=row? W b o n):=
 ⟨fun b o h=>hb.cell (p:=⟨b,o,none⟩) h,fun b o h=>hb.frozen (p:=⟨b,o,none⟩) h,fun b o n h=>gZ (hb.block b h) o n⟩
attribute [go_sem] Qx df Fj Qy aa7 aa8 Later.cell Later.frozen Later.row
end Go.WW
namespace Go.WW
open Go.RowKit
section
variable {P:Program} {ops:Array Oper} {S:World→Prop} {st:Oper→Bool} {Q:Act→World→Prop}
abbrev never:Exit→Act→World→Prop:=fun _ _ _=>False
def aH(P:Program)(ops:Array Oper)(st:Oper→Bool)(S:World→Prop)(Q:Act→World→Prop):List Oper→Act→World→Prop
 | [],a,w=>Q a w
 |o::rest,a,w=>
  if Region.wanted o (yielded ops a.tmps)then
   if st o then ∃v,(∀w',S w'→(execOp a.eval o).run P w'=.ok (.value v) w')∧aH P ops st S Q rest (a.put o.dst v) w
   else o.wp P a w (fun a' w'=>S w'∧aH P ops st S Q rest a' w') never
  else aH P ops st S Q rest (a.put o.dst undef) w
theorem qL{o:Oper}{a:Act}{w:World}{K:Act→World→Prop}{Q':Exit→Act→World→Prop}(h:o.wp P a w K never):o.wp P a w K Q':=by
 unfold Oper.wp at *
 generalize (execOp a.eval o).run P w=r at *
 cases r with
 |ok n w'=>
  cases n<;>simp only[Oper.upon]at h ⊢<;>
   first
    |exact h
    |exact Calls.mono h (fun e w'' he=>by cases e<;>first|exact he|exact he.elim|(obtain⟨_,_,he⟩:=he;exact he.elim))
 |halt x w'=>cases x<;>simp only[Oper.upon,never]at h ⊢
theorem sU{o:Oper}{a:Act}{w:World}{K:Act→World→Prop}(h:o.wp P a w K never) :
  o.wp P a w (fun a' w'=>(∃u ds,a'=({a with defers:=ds}:Act).put o.dst u)∧K a' w') never:=by
 unfold Oper.wp at *
 generalize (execOp a.eval o).run P w=r at *
 cases r with
 |ok n w'=>
  cases n<;>simp only[Oper.upon]at h ⊢<;>
   first
    |exact⟨⟨_,a.defers,rfl⟩,h⟩
    |exact⟨⟨_,_,rfl⟩,h⟩
    |exact Calls.mono h (fun e w'' he=>by cases e<;>first|exact⟨⟨_,a.defers,rfl⟩,he⟩|exact he)
    |exact Rows.mono h (fun _ _ he=>⟨⟨_,a.defers,rfl⟩,he⟩)
    |exact h
 |halt x w'=>cases x<;>simp only[Oper.upon,never]at h ⊢
theorem Fq{o:Oper}{a:Act}{w:World}{K:Act→World→Prop}(h:o.wp P a w K never):∃a' w',K a' w':=by
 unfold Oper.wp at *
 generalize (execOp a.eval o).run P w=r at *
 cases r with
 |ok n w'=>
  cases n<;>simp only[Oper.upon]at h<;>
   first
    |exact⟨_,_,h⟩
    |(obtain⟨e,w'',fr,hR,_⟩:=h []
      cases e with
      |returned v=>exact⟨_,_,hR⟩
      |panicked c=>exact hR.elim
      |outgrown=>obtain⟨_,_,hR⟩:=hR;exact hR.elim)
    |(obtain⟨v,w'',hR,_⟩:=h default [];exact⟨_,_,hR⟩)
    |exact h.elim
 |halt x w'=>cases x<;>simp only[Oper.upon,never]at h
theorem nU{o:Oper}{a:Act}{w:World}{K:Act→World→Prop}{dst:Option Tmp}{v:Value}(hs:∀cs b,o.op≠.select cs b)
  (h1:∀d,dst=some d→d∉o.looksAt ops) (h2:∀d,dst=some d→o.dst≠some d) :
  o.wp P (a.put dst v) w K never↔o.wp P a w (fun a' w'=>K (a'.put dst v) w') never:=by
 unfold Oper.wp
 rw[execOp_put o hs a dst v h1]
 generalize (execOp a.eval o).run P w=r
 have hc:∀(b:Act) u,(b.put dst v).put o.dst u=(b.put o.dst u).put dst v:=fun b u=>Act.put_comm b v u h2
 have hd:∀d,({a.put dst v with defers:=d::(a.put dst v).defers}:Act)=({a with defers:=d::a.defers}:Act).put dst v:=fun d=>Act.put_defers a dst v d
 cases r with
 |ok n w'=>
  cases n<;>simp only[Oper.upon,hc,hd]
 |halt x w'=>cases x<;>simp only[Oper.upon]
theorem bJ(o:Oper)(rest:List Oper)(a:Act)(w:World):aH P ops st S Q (o::rest) a w =
  (if Region.wanted o (yielded ops a.tmps)then
   if st o then ∃v,(∀w',S w'→(execOp a.eval o).run P w'=.ok (.value v) w')∧aH P ops st S Q rest (a.put o.dst v) w
   else o.wp P a w (fun a' w'=>S w'∧aH P ops st S Q rest a' w') never
  else aH P ops st S Q rest (a.put o.dst undef) w):=rfl
theorem QF{l:List Oper}{Q':Act→World→Prop}(h:∀a w,Q a w→Q' a w):∀{a w},aH P ops st S Q l a w→aH P ops st S Q' l a w:=by
 induction l with
 |nil=>exact fun hh=>h _ _ hh
 |cons o l ih=>
  intro a w hh
  rw[bJ]at *
  split
  ·rename_i hw
   simp only[hw,if_true]at hh
   split
   ·rename_i hs
    simp only[hs,if_true]at hh
    obtain⟨v,h1,h2⟩:=hh
    exact⟨v,h1,ih h2⟩
   ·rename_i hs
    simp only[hs]at hh
    exact Oper.wp_mono (fun a' w' ⟨x,y⟩=>⟨x,ih y⟩) hh
  ·rename_i hw
   simp only[hw]at hh
   exact ih hh
theorem Aa{o:Oper}{M M':List Oper}{a:Act}{w:World}(hS:S w)(h:∀a' w',S w'→aH P ops st S Q M a' w'→aH P ops st S Q M' a' w')
  (hh:aH P ops st S Q (o::M) a w):aH P ops st S Q (o::M') a w:=by
 rw[bJ]at *
 split
 ·rename_i hw
  simp only[hw,if_true]at hh
  split
  ·rename_i hs
   simp only[hs,if_true]at hh
   obtain⟨v,h1,h2⟩:=hh
   exact⟨v,h1,h _ _ hS h2⟩
  ·rename_i hs
   simp only[hs]at hh
   exact Oper.wp_mono (fun a' w' ⟨x,y⟩=>⟨x,h _ _ x y⟩) hh
 ·rename_i hw
  simp only[hw]at hh
  exact h _ _ hS hh
theorem Ac{x o:Oper}{L:List Oper}{a:Act}{w:World}(hx:∀cs b,x.op≠.select cs b)(ho:∀cs b,o.op≠.select cs b)
  (hap:x.apart ops o=true) (hst:st x=true∨st o=true) (h:aH P ops st S Q (x::o::L) a w):aH P ops st S Q (o::x::L) a w:=by
 obtain⟨h1,h2,h3⟩:=Oper.apart_spec hap
 have h2':∀d,o.dst=some d→x.dst≠some d:=fun d hd hxd=>h2 d hxd hd
 have wo:∀(b:Act) v,Region.wanted o (yielded ops (b.put x.dst v).tmps)=Region.wanted o (yielded ops b.tmps):=fun b v=>wanted_put o b x.dst v h1
 have wx:∀(b:Act) v,Region.wanted x (yielded ops (b.put o.dst v).tmps)=Region.wanted x (yielded ops b.tmps):=fun b v=>wanted_put x b o.dst v h3
 have eo:∀(b:Act) v,execOp (b.put x.dst v).eval o=execOp b.eval o:=fun b v=>execOp_put o ho b x.dst v h1
 have ex:∀(b:Act) v,execOp (b.put o.dst v).eval x=execOp b.eval x:=fun b v=>execOp_put x hx b o.dst v h3
 have hc:∀(b:Act) v u,(b.put x.dst v).put o.dst u=(b.put o.dst u).put x.dst v:=fun b v u=>Act.put_comm b v u h2
 rw[bJ]at h ⊢
 by_cases hwx:Region.wanted x (yielded ops a.tmps)=true
 ·rw[if_pos hwx]at h
  by_cases hsx:st x=true
  ·rw[if_pos hsx]at h
   obtain⟨v,hv,h⟩:=h
   rw[bJ,wo,eo]at h
   by_cases hwo:Region.wanted o (yielded ops a.tmps)=true
   ·rw[if_pos hwo]at h ⊢
    by_cases hso:st o=true
    ·rw[if_pos hso]at h ⊢
     obtain⟨u,hu,h⟩:=h
     refine⟨u,hu,?_⟩
     rw[bJ,wx,if_pos hwx,if_pos hsx,ex]
     exact⟨v,hv,by rw[←hc];exact h⟩
    ·rw[if_neg hso]at h ⊢
     have h':=sU ((nU ho h1 h2).1 h)
     refine Oper.wp_mono ?_ h'
     rintro a' w' ⟨⟨u,ds,rfl⟩,hS',h⟩
     refine⟨hS',?_⟩
     rw[bJ,wx,show Region.wanted x (yielded ops ({a with defers:=ds}:Act).tmps)=true from hwx,if_pos rfl,if_pos hsx,ex]
     exact⟨v,hv,h⟩
   ·rw[if_neg hwo]at h ⊢
    rw[bJ,wx,if_pos hwx,if_pos hsx,ex]
    exact⟨v,hv,by rw[←hc];exact h⟩
  ·have hso:st o=true:=hst.resolve_left hsx
   rw[if_neg hsx]at h
   have h':=sU h
   by_cases hwo:Region.wanted o (yielded ops a.tmps)=true
   ·rw[if_pos hwo,if_pos hso]
    have key:∀a' w',((∃u ds,a'=({a with defers:=ds}:Act).put x.dst u)∧S w'∧aH P ops st S Q (o::L) a' w')→
      ∃v,(∀w',S w'→(execOp a.eval o).run P w'=.ok (.value v) w')∧S w'∧aH P ops st S Q L (a'.put o.dst v) w':=by
     rintro a' w' ⟨⟨u,ds,rfl⟩,hS',hh⟩
     rw[bJ,wo,show Region.wanted o (yielded ops ({a with defers:=ds}:Act).tmps)=true from hwo,if_pos rfl,if_pos hso,eo]at hh
     obtain⟨v,hv,hh⟩:=hh
     exact⟨v,hv,hS',hh⟩
    obtain⟨a1,w1,h1'⟩:=Fq h'
    obtain⟨v,hv,_⟩:=key _ _ h1'
    refine⟨v,hv,?_⟩
    rw[bJ,wx,if_pos hwx,if_neg hsx,nU hx h3 h2']
    refine Oper.wp_mono ?_ h'
    intro a' w' hh
    obtain⟨v',hv',hS',hh⟩:=key _ _ hh
    have e:v'=v:=by
     have:=(hv' _ hS').symm.trans (hv _ hS')
     simpa using this
    subst e
    exact⟨hS',hh⟩
   ·rw[if_neg hwo,bJ,wx,if_pos hwx,if_neg hsx,nU hx h3 h2']
    refine Oper.wp_mono ?_ h'
    rintro a' w' ⟨⟨u,ds,rfl⟩,hS',hh⟩
    rw[bJ,wo,show Region.wanted o (yielded ops ({a with defers:=ds}:Act).tmps)=false from by simpa using hwo,if_neg (by simp)]at hh
    exact⟨hS',hh⟩
 ·rw[if_neg hwx]at h
  rw[bJ,wo,eo]at h
  by_cases hwo:Region.wanted o (yielded ops a.tmps)=true
  ·rw[if_pos hwo]at h ⊢
   by_cases hso:st o=true
   ·rw[if_pos hso]at h ⊢
    obtain⟨u,hu,h⟩:=h
    refine⟨u,hu,?_⟩
    rw[bJ,wx,if_neg hwx,←hc]
    exact h
   ·rw[if_neg hso]at h ⊢
    have h':=sU ((nU ho h1 h2).1 h)
    refine Oper.wp_mono ?_ h'
    rintro a' w' ⟨⟨u,ds,rfl⟩,hS',h⟩
    refine⟨hS',?_⟩
    rw[bJ,wx,show Region.wanted x (yielded ops ({a with defers:=ds}:Act).tmps)=false from by simpa using hwx,if_neg (by simp)]
    exact h
  ·rw[if_neg hwo]at h ⊢
   rw[bJ,wx,if_neg hwx,←hc]
   exact h
theorem lV{o:Oper}{L2:List Oper}(ho:∀cs b,o.op≠.select cs b):∀(L1:List Oper),(∀x∈L1,(∀cs b,x.op≠.select cs b)∧x.apart ops o=true∧(st x=true∨st o=true))→
  ∀(a:Act) (w:World),S w→aH P ops st S Q (L1++o::L2) a w→aH P ops st S Q (o::(L1++L2)) a w
 | [],_,_,_,_,h=>h
 |x::L1,hall,a,w,hS,h=>by
  have hx:=hall x (by simp)
  refine Ac hx.1 ho hx.2.1 hx.2.2 ?_
  exact Aa hS (fun a' w' hS' hh=>lV ho L1 (fun y hy=>hall y (by simp[hy])) a' w' hS' hh) h
def nG(st:Oper→Bool)(ops:Array Oper):Array (List Nat):=
 ops.foldl (fun acc o=>acc.push (((o.after.toList.filter (Region.binds .any ·)).flatMap fun e=>(if((ops[e.on]?).map st).getD true then []else [e.on])++acc.getD e.on []).eraseDups)) #[]
def lW(st:Oper→Bool)(ops:Array Oper):Bool:=
 let m:=nG st ops
 Region.noSelect ops&&(List.range ops.size).all fun j=>match ops[j]? with
  |none=>true
  |some oj=>
   oj.after.toList.all (fun e=>!Region.binds .any e || decide (e.on<j))&&
   (m.getD j []).all (fun i=>oj.after.toList.any fun e=>Region.binds .any e&&(e.on == i || (m.getD e.on []).contains i))&&
   (List.range j).all fun i=>match ops[i]? with
    |none=>true
    |some oi=>oj.after.toList.any (fun e=>Region.binds .any e&&e.on == i) || (oi.apart ops oj&&(st oi || st oj || (m.getD j []).contains i))
structure qM(st:Oper→Bool)(ops:Array Oper)(m:Array (List Nat)):Prop where
 jl:Region.noSelect ops=true
 back:∀j oj,ops[j]?=some oj→∀e∈oj.after,Region.binds .any e=true→e.on<j
 pred:∀j oj,ops[j]?=some oj→∀i∈m.getD j [],∃e∈oj.after,Region.binds .any e=true∧(e.on=i∨i∈m.getD e.on [])
 pair:∀j oj,ops[j]?=some oj→∀i,i<j→∀oi,ops[i]?=some oi→(∃e∈oj.after,Region.binds .any e=true∧e.on=i)∨(oi.apart ops oj=true∧(st oi=true∨st oj=true∨i∈m.getD j []))
theorem yc(h:lW st ops=true):qM st ops (nG st ops):=by
 unfold lW at h
 simp only[Bool.and_eq_true,List.all_eq_true,List.mem_range]at h
 obtain⟨hs,h⟩:=h
 have lt:∀{j:Nat} {oj:Oper},ops[j]?=some oj→j<ops.size:=fun hj=>(Array.getElem?_eq_some_iff.1 hj).1
 refine⟨hs,fun j oj hj=>?_,fun j oj hj=>?_,fun j oj hj=>?_⟩
 all_goals
  have hh:=h j (lt hj)
  simp only[hj,Bool.and_eq_true,List.all_eq_true,List.mem_range]at hh
  obtain⟨⟨h1,h2⟩,h3⟩:=hh
 ·intro e he hb
  have:=h1 e (by simpa using he)
  simpa[hb]using this
 ·intro i hi
  have:=h2 i hi
  simp only[List.any_eq_true,Bool.and_eq_true,Bool.or_eq_true,beq_iff_eq,List.contains_iff_mem]at this
  obtain⟨e,he,hb,hor⟩:=this
  exact⟨e,by simpa using he,hb,hor⟩
 ·intro i hi oi ho
  have:=h3 i hi
  simp only[ho,Bool.or_eq_true,List.any_eq_true,Bool.and_eq_true,beq_iff_eq,List.contains_iff_mem]at this
  rcases this with⟨e,he,hb,hor⟩|⟨ha,hor⟩
  ·exact .inl ⟨e,by simpa using he,hb,hor⟩
  ·exact .inr ⟨ha,by rcases hor with(h|h)|h;exact .inl h;exact .inr (.inl h);exact .inr (.inr h)⟩
theorem Ad{m:Array (List Nat)}(hok:qM st ops m){listed:Array Bool}
  (hdown:∀k o,ops[k]?=some o→listed.getD k false=true→∀e∈o.after,Region.binds .any e=true→listed.getD e.on false=true) :
  ∀(j:Nat) (oj:Oper),ops[j]?=some oj→(∀e∈oj.after,Region.binds .any e=true→listed.getD e.on false=true)→∀i∈m.getD j [],listed.getD i false=true:=by
 intro j
 induction j using Nat.strongRecOn with
 |_ j ih=>
  intro oj hj hall i hi
  obtain⟨e,he,hb,hor⟩:=hok.pred j oj hj i hi
  rcases hor with rfl|hor
  ·exact hall e he hb
  ·have hlt:=hok.back j oj hj e he hb
   have hjs:j<ops.size:=(Array.getElem?_eq_some_iff.1 hj).1
   have hoe:ops[e.on]?=some (ops[e.on]'(by omega)):=by simp
   exact ih e.on hlt _ hoe (hdown _ _ hoe (hall e he hb)) i hor
theorem sV{listed:Array Bool}{i:Nat}(h:listed.getD i false=true):listed.getD i true=true:=by
 rcases Nat.lt_or_ge i listed.size with h'|h'
 ·simp[h']at h ⊢;exact h
 ·simp[Array.getElem?_eq_none h']at h
theorem yf{m:Array (List Nat)}(hok:qM st ops m){Q':Exit→Act→World→Prop}(hQ:∀a w,Q a w→Q' .normal a w) :
  ∀(n:Nat) (L:List Nat) (listed:Array Bool) (a:Act) (w:World),L.length=n→L.Pairwise (· < ·)→listed.size=ops.size→(∀j,j∈L↔j<ops.size∧listed.getD j true=false)→
   (∀k o,ops[k]?=some o→listed.getD k false=true→∀e∈o.after,Region.binds .any e=true→listed.getD e.on false=true)→
   S w→aH P ops st S Q (L.filterMap (ops[·]?)) a w→wpAny P .any ops Q' n listed a w:=by
 intro n
 induction n with
 |zero=>
  intro L listed a w hn _ hsz hL _ _ h
  have:L=[]:=List.eq_nil_of_length_eq_zero hn
  subst this
  refine⟨?_,hQ _ _ h⟩
  cases hr:Region.ready .any ops listed with
  |nil=>rfl
  |cons i r=>
   have hi:i∈Region.ready .any ops listed:=by rw[hr];simp
   obtain⟨h0,o,ho,_⟩:=mem_ready.1 hi
   have:=(hL i).2 ⟨(Array.getElem?_eq_some_iff.1 ho).1,h0⟩
   cases this
 |succ n ih=>
  intro L listed a w hn hsort hsz hL hdown hS h
  refine⟨fun hr=>?_,fun i hi=>?_⟩
  ·exfalso
   cases L with
   |nil=>simp at hn
   |cons j L=>
    obtain⟨hj,hjl⟩:=(hL j).1 (by simp)
    have hoj:ops[j]?=some ops[j]:=by simp[hj]
    have:j∈Region.ready .any ops listed:=by
     refine mem_ready.2 ⟨hjl,_,hoj,fun e he hb=>?_⟩
     have hlt:=hok.back j _ hoj e he hb
     have hnot:e.on∉j::L:=by
      intro hmem
      rcases List.mem_cons.1 hmem with h1|h1
      ·omega
      ·have:=(List.pairwise_cons.1 hsort).1 _ h1;omega
     have h2:listed.getD e.on true≠false:=fun hf=>hnot ((hL e.on).2 ⟨by omega,hf⟩)
     have hes:e.on<listed.size:=by omega
     simp[hes]at h2 ⊢;exact h2
    rw[hr]at this;cases this
  ·obtain⟨h0,o,ho,hall⟩:=mem_ready.1 hi
   have his:i<ops.size:=(Array.getElem?_eq_some_iff.1 ho).1
   have hiL:i∈L:=(hL i).2 ⟨his,h0⟩
   obtain⟨L1,L2,rfl⟩:=List.append_of_mem hiL
   have dN:=List.pairwise_append.1 hsort
   have hlt1:∀x∈L1,x<i:=fun x hx=>dN.2.2 x hx i (by simp)
   have hgt2:∀x∈L2,i<x:=fun x hx=>(List.pairwise_cons.1 dN.2.1).1 x hx
   rw[List.filterMap_append,List.filterMap_cons_some ho]at h
   have bY:=lV (P:=P) (ops:=ops) (S:=S) (st:=st) (Q:=Q) (Region.noSelect_spec hok.jl i o · · ho) (L1.filterMap (ops[·]?)) (fun x hx=>by
    obtain⟨k,hk,hox⟩:=List.mem_filterMap.1 hx
    have hkl:=((hL k).1 (by simp[hk])).2
    have hnl:¬listed.getD k false=true:=fun hf=>by rw[sV hf]at hkl;cases hkl
    refine⟨(Region.noSelect_spec hok.jl k x · · hox),?_⟩
    rcases hok.pair i o ho k (hlt1 k hk) x hox with⟨e,he,hb,rfl⟩|⟨hap,hor⟩
    ·exact absurd (hall e he hb) hnl
    ·refine⟨hap,?_⟩
     rcases hor with h1|h1|h1
     ·exact .inl h1
     ·exact .inr h1
     ·exact absurd (Ad hok hdown i o ho hall k h1) hnl) a w hS h
   have hrest:∀a' w',S w'→aH P ops st S Q (L1.filterMap (ops[·]?)++L2.filterMap (ops[·]?)) a' w'→wpAny P .any ops Q' n (listed.setIfInBounds i true) a' w':=by
    intro a' w' hS' hh
    rw[←List.filterMap_append]at hh
    refine ih (L1++L2) (listed.setIfInBounds i true) a' w' ?_ ?_ (by simpa using hsz) ?_ ?_ hS' hh
    ·simp at hn ⊢;omega
    ·exact List.pairwise_append.2 ⟨dN.1,(List.pairwise_cons.1 dN.2.1).2,fun x hx y hy=>dN.2.2 x hx y (by simp[hy])⟩
    ·intro j
     by_cases hji:j=i
     ·subst hji
      constructor
      ·intro hm
       exfalso
       rcases List.mem_append.1 hm with h1|h1
       ·have:=hlt1 _ h1;omega
       ·have:=hgt2 _ h1;omega
      ·rintro⟨_,hf⟩
       have:j<listed.size:=by omega
       simp[this]at hf
     ·rw[getD_set_ne true (Ne.symm hji),←hL j]
      simp[hji]
    ·intro k ok hk hkl e he hb
     by_cases hki:k=i
     ·subst hki
      rw[ho]at hk;cases hk
      exact getD_set_true (hall e he hb)
     ·rw[getD_set_ne false (Ne.symm hki)]at hkl
      exact getD_set_true (hdown k ok hk hkl e he hb)
   unfold wpOp
   simp only[ho]
   rw[bJ]at bY
   split
   ·rename_i hw
    rw[if_pos hw]at bY
    refine .inl ?_
    by_cases hs:st o=true
    ·rw[if_pos hs]at bY
     obtain⟨v,hv,hh⟩:=bY
     unfold Oper.wp
     rw[hv w hS]
     exact hrest _ _ hS hh
    ·rw[if_neg hs]at bY
     exact qL (Oper.wp_mono (fun a' w' hh=>hrest a' w' hh.1 hh.2) bY)
   ·rename_i hw
    rw[if_neg hw]at bY
    exact hrest _ _ hS bY
theorem BX{id:Nat}{Q':Exit→Act→World→Prop}{a:Act}{w:World}{l:List Oper}(S:World→Prop)(st:Oper→Bool)(hm:P.follows .mixedOrders=true)(hB:lW st l.toArray=true)
  (hS:S w.drew) (h:aH P l.toArray st S (fun a' w'=>Q' .normal a' w') l a w.drew):(Code.region id l.toArray true).wp P Q' a w:=by
 refine wp_region_any hm ?_
 have hfm:(List.range l.toArray.size).filterMap (l.toArray[·]?)=l:=by
  apply List.ext_getElem?
  intro i
  have:∀n,(List.range n).filterMap (fun i=>l.toArray[i]?)=l.take n:=by
   intro n
   induction n with
   |zero=>simp
   |succ n ih=>
    rw[List.range_succ,List.filterMap_append,ih]
    by_cases hn:n<l.length
    ·rw[List.take_succ_eq_append_getElem hn];simp[hn]
    ·simp[hn,List.take_of_length_le (show l.length≤n by omega),List.take_of_length_le (show l.length≤n+1 by omega)]
  rw[this];simp
 have:=yf (P:=P) (S:=S) (Q:=fun a' w'=>Q' .normal a' w') (yc hB) (Q':=Q') (fun _ _ h=>h) l.toArray.size (List.range l.toArray.size) (Array.replicate l.toArray.size false) a w.drew
  (by simp) List.pairwise_lt_range (by simp) (by intro j;simp;intro h;simp[h]) (by intro k o hk hkl;exfalso;rw[Array.getD_eq_getD_getElem?,Array.getElem?_replicate]at hkl;split at hkl<;>simp at hkl) hS (by rw[hfm];exact h)
 exact this
def looks(o:Oper):Bool:=
 match o.op with
 | .move _ | .assign _ | .pick .. | .load .. | .binOp .. | .unOp .. | .makeInterface .. | .makeFunc .. | .slice .. | .fieldAddr .. | .field .. | .indexAddr .. | .index .. | .lookup .. | .extract .. | .build .. | .convert ..=>true
 | .call {callee:=.builtin b,..}=>match b with | .len | .cap | .min | .max=>true|_=>false
 |_=>false
theorem QG(s:Sem Value)(w:World):(∃v w',((do pure (.value (←s)):Sem Next)).run P w=.ok (.value v) w')∨∃h w',((do pure (.value (←s)):Sem Next)).run P w=.halt h w':=by
 rw[Sem.run_bind]
 cases s.run P w with
 |ok v w'=>exact .inl ⟨v,w',by simp⟩
 |halt h w'=>exact .inr ⟨h,w',by simp⟩
theorem BZ{o:Oper}(h:looks o=true)(ρ:Operand→Value)(w:World):(∃v w',(execOp ρ o).run P w=.ok (.value v) w')∨∃h w',(execOp ρ o).run P w=.halt h w':=by
 obtain⟨dst,op,type,pos,after,guard⟩:=o
 cases op<;>simp only[looks,Bool.false_eq_true]at h<;>simp only[execOp]
 case move x=>exact .inl ⟨_,w,rfl⟩
 case assign x=>exact .inl ⟨_,w,rfl⟩
 case pick c a b=>
  rw[Sem.run_bind]
  cases (asBool (ρ c)).run P w with
  |ok v w'=>exact .inl ⟨_,w',by simp;rfl⟩
  |halt h w'=>exact .inr ⟨h,w',by simp⟩
 case call c=>
  obtain⟨callee,args,ats⟩:=c
  cases callee with
  |value f=>simp at h
  |invoke r m=>simp at h
  |builtin b=>cases b<;>simp at h<;>exact QG _ w
 all_goals exact QG _ w
theorem bV{a:Act}{w:World}(h:Q a w):aH P ops st S Q [] a w:=h
theorem ax{o:Oper}{rest:List Oper}{a:Act}{w:World}(hw:Region.wanted o (yielded ops a.tmps)=false)(h:aH P ops st S Q rest (a.put o.dst undef) w):aH P ops st S Q (o::rest) a w:=by
 rw[bJ,if_neg (by simp[hw])];exact h
theorem aI{o:Oper}{rest:List Oper}{a:Act}{w:World}(hw:Region.wanted o (yielded ops a.tmps)=true)(hs:looks o=true)
  (h:∀K:Act→Prop,(∀a',aH P ops looks S Q rest a' w→K a')→o.quiet P a S K):aH P ops looks S Q (o::rest) a w:=by
 rw[bJ,if_pos hw,if_pos hs]
 obtain⟨v,hv,hh⟩:=h _ (fun _ x=>x)
 refine⟨v,fun w' hw'=>?_,hh⟩
 have:=hv w' hw'
 unfold Oper.quietAt at this
 rcases BZ (P:=P) hs a.eval w' with⟨u,w'',e⟩|⟨x,w'',e⟩
 ·rw[e]at this ⊢
  obtain⟨rfl,rfl⟩:=this
  rfl
 ·rw[e]at this
  exact this.elim
theorem aK{o:Oper}{rest:List Oper}{a:Act}{w:World}(hw:Region.wanted o (yielded ops a.tmps)=true)(hs:looks o=false)
  (h:∀K:Act→World→Prop,(∀a' w',S w'→aH P ops looks S Q rest a' w'→K a' w')→o.wp P a w K never):aH P ops looks S Q (o::rest) a w:=by
 rw[bJ,if_pos hw,if_neg (by simp[hs])]
 exact h _ (fun _ _ x y=>⟨x,y⟩)
end
abbrev since(w:World):World→Prop:=fun w'=>∃x:Later w,w'=x.w
theorem pW{P:Program}{id:Nat}{Q':Exit→Act→World→Prop}{a:Act}{W w:World}{l:List Oper}(hW:Below W.heap.size W w)(hm:P.follows .mixedOrders=true)(hB:lW looks l.toArray=true)
  (h:∀w1,Below W.heap.size W w1→aH P l.toArray looks (since W) (fun a' w'=>Q' .normal a' w') l a w1):(Code.region id l.toArray true).wp P Q' a w:=
 BX (since W) looks hm hB ⟨⟨w.drew,hW.drew⟩,rfl⟩ (h _ hW.drew)
theorem aA{W w:World}(h:Below W.heap.size W w):since W w:=⟨⟨w,h⟩,rfl⟩
theorem ag{W w w':World}(h:Below W.heap.size W w)(h':Below w.heap.size w w'):Below W.heap.size W w':=h.trans (h'.mono h.size)
theorem aj{W w:World}(h:Below W.heap.size W w)(o:Obj):Below W.heap.size W (w.alloc o):=h.alloc h.size o
end Go.WW
namespace Go.WW
structure Sl where
 a:Option Addr
 cap:Nat
structure az where
 parts:List ByteArray
 aG:ByteArray
structure Key where
 profile:Int
 version:Int
 bytes:List UInt8
structure bC where
 version:Int
 keys:List Key
 di:ByteArray
 dK:Int
 created:Int
structure Entry where
 name:az
 aliases:List az
 attrs:Int
 dS:Int
 keys:List bC
 aO:ByteArray
 iE:Int
 iF:Int
 ig:Int
 ik:Int
 fails:Int
 fD:Int
 gQ:Int
 targets:List az
 bD:List az
 history:List (List UInt8)
structure ai where
 name:ByteArray
 length:Int
 classes:Int
 distinct:Int
 history:Int
 iH:Int
 eu:Int
 fails:Int
 window:Int
 lock:Int
structure aN where
 parts:Sl
 aliases:Sl
 keys:Sl
 targets:Sl
 bD:Sl
 history:Sl
def ah(s:Sl)(p:az):Array Value:=#[.slice s.a p.parts.length s.cap,.string p.aG]
theorem uN(s:Sl)(p:az):(ah s p).size=2:=by simp[ah]
theorem QH(s:Sl)(p:az):dJ (ah s p)=true:=by simp[dJ,ah,Value.oneCell']
theorem abb(s:Sl)(p:az)(h:0<(ah s p).size):(ah s p)[0]'h=.slice s.a p.parts.length s.cap:=by simp[ah]
theorem Fv(s:Sl)(p:az):(ah s p)[1]?=some (.string p.aG):=by simp[ah]
theorem abd(s:Sl)(p:az)(h:1<(ah s p).size):(ah s p)[1]'h=.string p.aG:=by simp[ah]
attribute [go_sem] uN QH abb Fv abd
def bZ(s:Sl)(k:Key):Array Value:=#[.int .i64 k.profile,.int .i64 k.version,.slice s.a k.bytes.length s.cap]
theorem QI(s:Sl)(k:Key):(bZ s k).size=3:=by simp[bZ]
theorem QJ(s:Sl)(k:Key):dJ (bZ s k)=true:=by simp[dJ,bZ,Value.oneCell']
theorem abe(s:Sl)(k:Key)(h:0<(bZ s k).size):(bZ s k)[0]'h=.int .i64 k.profile:=by simp[bZ]
theorem abf(s:Sl)(k:Key)(h:1<(bZ s k).size):(bZ s k)[1]'h=.int .i64 k.version:=by simp[bZ]
theorem Fz(s:Sl)(k:Key):(bZ s k)[2]?=some (.slice s.a k.bytes.length s.cap):=by simp[bZ]
theorem abg(s:Sl)(k:Key)(h:2<(bZ s k).size):(bZ s k)[2]'h=.slice s.a k.bytes.length s.cap:=by simp[bZ]
attribute [go_sem] QI QJ abe abf Fz abg
def bz(s:Sl)(k:bC):Array Value:=#[.int .i64 k.version,.slice s.a k.keys.length s.cap,.string k.di,.int .i64 k.dK,.int .i64 k.created]
theorem QL(s:Sl)(k:bC):(bz s k).size=5:=by simp[bz]
theorem QM(s:Sl)(k:bC):dJ (bz s k)=true:=by simp[dJ,bz,Value.oneCell']
theorem Cb(s:Sl)(k:bC):(bz s k)[0]?=some (.int .i64 k.version):=by simp[bz]
theorem abh(s:Sl)(k:bC)(h:0<(bz s k).size):(bz s k)[0]'h=.int .i64 k.version:=by simp[bz]
theorem Cc(s:Sl)(k:bC):(bz s k)[1]?=some (.slice s.a k.keys.length s.cap):=by simp[bz]
theorem abj(s:Sl)(k:bC)(h:1<(bz s k).size):(bz s k)[1]'h=.slice s.a k.keys.length s.cap:=by simp[bz]
theorem abk(s:Sl)(k:bC)(h:2<(bz s k).size):(bz s k)[2]'h=.string k.di:=by simp[bz]
theorem abl(s:Sl)(k:bC)(h:3<(bz s k).size):(bz s k)[3]'h=.int .i64 k.dK:=by simp[bz]
theorem JD(s:Sl)(k:bC):(bz s k)[4]?=some (.int .i64 k.created):=by simp[bz]
theorem abm(s:Sl)(k:bC)(h:4<(bz s k).size):(bz s k)[4]'h=.int .i64 k.created:=by simp[bz]
attribute [go_sem] QL QM Cb abh Cc abj abk abl JD abm
def ae(r:aN)(d:Entry):Array Value:=#[.slice r.parts.a d.name.parts.length r.parts.cap,.string d.name.aG,.slice r.aliases.a d.aliases.length r.aliases.cap,.int .u32 d.attrs,.int .i64 d.dS,.slice r.keys.a d.keys.length r.keys.cap,.string d.aO,.int .i64 d.iE,.int .i64 d.iF,.int .i64 d.ig,.int .i64 d.ik,.int .i64 d.fails,.int .i64 d.fD,.int .i64 d.gQ,.slice r.targets.a d.targets.length r.targets.cap,.slice r.bD.a d.bD.length r.bD.cap,.slice r.history.a d.history.length r.history.cap]
theorem Ae(r:aN)(d:Entry):(ae r d).size=17:=by simp[ae]
theorem QN(r:aN)(d:Entry):dJ (ae r d)=true:=by simp[dJ,ae,Value.oneCell']
theorem QO(r:aN)(d:Entry):(ae r d)[0]?=some (.slice r.parts.a d.name.parts.length r.parts.cap):=by simp[ae]
theorem abn(r:aN)(d:Entry)(h:0<(ae r d).size):(ae r d)[0]'h=.slice r.parts.a d.name.parts.length r.parts.cap:=by simp[ae]
theorem abo(r:aN)(d:Entry)(h:1<(ae r d).size):(ae r d)[1]'h=.string d.name.aG:=by simp[ae]
theorem QQ(r:aN)(d:Entry):(ae r d)[2]?=some (.slice r.aliases.a d.aliases.length r.aliases.cap):=by simp[ae]
theorem abp(r:aN)(d:Entry)(h:2<(ae r d).size):(ae r d)[2]'h=.slice r.aliases.a d.aliases.length r.aliases.cap:=by simp[ae]
theorem abq(r:aN)(d:Entry)(h:3<(ae r d).size):(ae r d)[3]'h=.int .u32 d.attrs:=by simp[ae]
theorem abr(r:aN)(d:Entry)(h:4<(ae r d).size):(ae r d)[4]'h=.int .i64 d.dS:=by simp[ae]
theorem Ce(r:aN)(d:Entry):(ae r d)[5]?=some (.slice r.keys.a d.keys.length r.keys.cap):=by simp[ae]
theorem abt(r:aN)(d:Entry)(h:5<(ae r d).size):(ae r d)[5]'h=.slice r.keys.a d.keys.length r.keys.cap:=by simp[ae]
theorem FB(r:aN)(d:Entry):(ae r d)[6]?=some (.string d.aO):=by simp[ae]
theorem abu(r:aN)(d:Entry)(h:6<(ae r d).size):(ae r d)[6]'h=.string d.aO:=by simp[ae]
theorem abv(r:aN)(d:Entry)(h:7<(ae r d).size):(ae r d)[7]'h=.int .i64 d.iE:=by simp[ae]
theorem abw(r:aN)(d:Entry)(h:8<(ae r d).size):(ae r d)[8]'h=.int .i64 d.iF:=by simp[ae]
theorem abx(r:aN)(d:Entry)(h:9<(ae r d).size):(ae r d)[9]'h=.int .i64 d.ig:=by simp[ae]
theorem aby(r:aN)(d:Entry)(h:10<(ae r d).size):(ae r d)[10]'h=.int .i64 d.ik:=by simp[ae]
theorem QR(r:aN)(d:Entry):(ae r d)[11]?=some (.int .i64 d.fails):=by simp[ae]
theorem abz(r:aN)(d:Entry)(h:11<(ae r d).size):(ae r d)[11]'h=.int .i64 d.fails:=by simp[ae]
theorem QS(r:aN)(d:Entry):(ae r d)[12]?=some (.int .i64 d.fD):=by simp[ae]
theorem abA(r:aN)(d:Entry)(h:12<(ae r d).size):(ae r d)[12]'h=.int .i64 d.fD:=by simp[ae]
theorem QU(r:aN)(d:Entry):(ae r d)[13]?=some (.int .i64 d.gQ):=by simp[ae]
theorem abB(r:aN)(d:Entry)(h:13<(ae r d).size):(ae r d)[13]'h=.int .i64 d.gQ:=by simp[ae]
theorem abC(r:aN)(d:Entry)(h:14<(ae r d).size):(ae r d)[14]'h=.slice r.targets.a d.targets.length r.targets.cap:=by simp[ae]
theorem abD(r:aN)(d:Entry)(h:15<(ae r d).size):(ae r d)[15]'h=.slice r.bD.a d.bD.length r.bD.cap:=by simp[ae]
theorem abE(r:aN)(d:Entry)(h:16<(ae r d).size):(ae r d)[16]'h=.slice r.history.a d.history.length r.history.cap:=by simp[ae]
theorem abG(r:aN)(d:Entry)(v:Int):(ae r d).setIfInBounds 4 (.int .i64 v)=ae r {d with dS:=v}:=by kernel_rfl
theorem abH(r:aN)(d:Entry)(v:Int):(ae r d).setIfInBounds 7 (.int .i64 v)=ae r {d with iE:=v}:=by kernel_rfl
theorem abI(r:aN)(d:Entry)(v:Int):(ae r d).setIfInBounds 8 (.int .i64 v)=ae r {d with iF:=v}:=by kernel_rfl
theorem abJ(r:aN)(d:Entry)(v:Int):(ae r d).setIfInBounds 9 (.int .i64 v)=ae r {d with ig:=v}:=by kernel_rfl
theorem abK(r:aN)(d:Entry)(v:Int):(ae r d).setIfInBounds 10 (.int .i64 v)=ae r {d with ik:=v}:=by kernel_rfl
theorem abL(r:aN)(d:Entry)(v:Int):(ae r d).setIfInBounds 11 (.int .i64 v)=ae r {d with fails:=v}:=by kernel_rfl
theorem abM(r:aN)(d:Entry)(v:Int):(ae r d).setIfInBounds 12 (.int .i64 v)=ae r {d with fD:=v}:=by kernel_rfl
theorem abN(r:aN)(d:Entry)(v:Int):(ae r d).setIfInBounds 13 (.int .i64 v)=ae r {d with gQ:=v}:=by kernel_rfl
theorem Cf(r:aN)(d:Entry):fO (ae r d) 0 2=some (ah r.parts d.name):=by kernel_rfl
attribute [go_sem] Ae QN QO abn abo QQ abp abq abr Ce abt FB abu abv abw abx aby QR abz QS abA QU abB abC abD abE abG abH abI abJ abK abL abM abN Cf
def aC(p:ai):Array Value:=#[.string p.name,.int .i64 p.length,.int .i64 p.classes,.int .i64 p.distinct,.int .i64 p.history,.int .i64 p.iH,.int .i64 p.eu,.int .i64 p.fails,.int .i64 p.window,.int .i64 p.lock]
theorem wL(p:ai):(aC p).size=10:=by simp[aC]
theorem QV(p:ai):dJ (aC p)=true:=by simp[dJ,aC,Value.oneCell']
theorem abO(p:ai)(h:0<(aC p).size):(aC p)[0]'h=.string p.name:=by simp[aC]
theorem abP(p:ai)(h:1<(aC p).size):(aC p)[1]'h=.int .i64 p.length:=by simp[aC]
theorem abQ(p:ai)(h:2<(aC p).size):(aC p)[2]'h=.int .i64 p.classes:=by simp[aC]
theorem abR(p:ai)(h:3<(aC p).size):(aC p)[3]'h=.int .i64 p.distinct:=by simp[aC]
theorem abS(p:ai)(h:4<(aC p).size):(aC p)[4]'h=.int .i64 p.history:=by simp[aC]
theorem abT(p:ai)(h:5<(aC p).size):(aC p)[5]'h=.int .i64 p.iH:=by simp[aC]
theorem abU(p:ai)(h:6<(aC p).size):(aC p)[6]'h=.int .i64 p.eu:=by simp[aC]
theorem abV(p:ai)(h:7<(aC p).size):(aC p)[7]'h=.int .i64 p.fails:=by simp[aC]
theorem abW(p:ai)(h:8<(aC p).size):(aC p)[8]'h=.int .i64 p.window:=by simp[aC]
theorem abX(p:ai)(h:9<(aC p).size):(aC p)[9]'h=.int .i64 p.lock:=by simp[aC]
attribute [go_sem] wL QV abO abP abQ abR abS abT abU abV abW abX
def jV(r:aN)(d:Entry)(p:ai):Array Value:=#[.slice r.parts.a d.name.parts.length r.parts.cap,.string d.name.aG,.slice r.aliases.a d.aliases.length r.aliases.cap,.int .u32 d.attrs,.int .i64 d.dS,.slice r.keys.a d.keys.length r.keys.cap,.string d.aO,.int .i64 d.iE,.int .i64 d.iF,.int .i64 d.ig,.int .i64 d.ik,.int .i64 d.fails,.int .i64 d.fD,.int .i64 d.gQ,.slice r.targets.a d.targets.length r.targets.cap,.slice r.bD.a d.bD.length r.bD.cap,.slice r.history.a d.history.length r.history.cap,.string p.name,.int .i64 p.length,.int .i64 p.classes,.int .i64 p.distinct,.int .i64 p.history,.int .i64 p.iH,.int .i64 p.eu,.int .i64 p.fails,.int .i64 p.window,.int .i64 p.lock]
theorem abY(r:aN)(d:Entry)(p:ai)(v:Int):(jV r d p).setIfInBounds 4 (.int .i64 v)=jV r {d with dS:=v} p:=by kernel_rfl
theorem abZ(r:aN)(d:Entry)(p:ai)(v:Int):(jV r d p).setIfInBounds 7 (.int .i64 v)=jV r {d with iE:=v} p:=by kernel_rfl
theorem ab1(r:aN)(d:Entry)(p:ai)(v:Int):(jV r d p).setIfInBounds 8 (.int .i64 v)=jV r {d with iF:=v} p:=by kernel_rfl
theorem ab2(r:aN)(d:Entry)(p:ai)(v:Int):(jV r d p).setIfInBounds 9 (.int .i64 v)=jV r {d with ig:=v} p:=by kernel_rfl
theorem ab3(r:aN)(d:Entry)(p:ai)(v:Int):(jV r d p).setIfInBounds 10 (.int .i64 v)=jV r {d with ik:=v} p:=by kernel_rfl
theorem ab4(r:aN)(d:Entry)(p:ai)(v:Int):(jV r d p).setIfInBounds 11 (.int .i64 v)=jV r {d with fails:=v} p:=by kernel_rfl
theorem ab5(r:aN)(d:Entry)(p:ai)(v:Int):(jV r d p).setIfInBounds 12 (.int .i64 v)=jV r {d with fD:=v} p:=by kernel_rfl
theorem ab6(r:aN)(d:Entry)(p:ai)(v:Int):(jV r d p).setIfInBounds 13 (.int .i64 v)=jV r {d with gQ:=v} p:=by kernel_rfl
theorem ab7(r:aN)(d:Entry)(p:ai):fO (jV r d p) 0 17=some (ae r d):=by kernel_rfl
theorem ab8(r:aN)(d:Entry)(p:ai):fO (jV r d p) 17 10=some (aC p):=by kernel_rfl
theorem ab9(r:aN)(d:Entry)(p:ai):fO (jV r d p) 0 2=some (ah r.parts d.name):=by kernel_rfl
theorem aca(r:aN)(d:Entry)(p:ai):(jV r d p).extract 0 17=ae r d:=by kernel_rfl
theorem acb(r:aN)(d:Entry)(p:ai):(jV r d p).extract 17 27=aC p:=by kernel_rfl
attribute [go_sem] abY abZ ab1 ab2 ab3 ab4 ab5 ab6 ab7 ab8 ab9 aca acb
end Go.WW
