/- A part of the proof. -/
import Derived.WalkKit
import Derived.WalkLawsBesides
import Derived.WalkSpells
import Derived.Deep.QuietTactic
import Derived.BigQuiet
import Derived.Deep.MidRow
import Derived.Lib.Hide
import Derived.KernelRfl
namespace Go.WW
open Go.RowKit
def row?(w:World)(b o n:Nat):Option (Array Value):=
 match w.heap[b]? with
 |some (.cells c _ _)=>if o+n≤c.size then some (c.extract o (o+n))else none
 |_=>none
theorem tJ{w w':World}{b:Nat}(h:w'.heap[b]?=w.heap[b]?)(o n:Nat):row? w' b o n=row? w b o n:=by simp[row?,h]
theorem yc{w:World}{b o n:Nat}{cs:Array Value}(h:row? w b o n=some cs):cs.size=n:=by
 unfold row? at h
 split at h
 ·split at h
  ·cases h;simp;omega
  ·cases h
 ·cases h
theorem kF{w:World}{b o n:Nat}{cs:Array Value}(h:row? w b o n=some cs)(j:Nat)(hj:j<n):w.cell? ⟨b,o+j,none⟩=cs[j]?:=by
 unfold row? at h
 split at h
 ·rename_i c t f hb
  split at h
  ·cases h
   rw[cell_of_row w b (o+j) c t f hb]
   simp[Array.getElem?_extract]
   intro h1;omega
  ·cases h
 ·cases h
theorem kT{w:World}{b o n:Nat}{cs:Array Value}(h:row? w b o n=some cs):b<w.heap.size:=by
 unfold row? at h
 split at h
 ·rename_i hb;exact(Array.getElem?_eq_some_iff.1 hb).1
 ·cases h
theorem Ou{w:World}{b o n:Nat}{cs:Array Value}(h:row? w b o n=some cs):w.rangeAt b o cs.toList:=by
 intro j v hv
 have hs:=yc h
 have hj:j<n:=by
  have:=(List.getElem?_eq_some_iff.1 hv).1;simp at this;omega
 rw[kF h j hj];simpa using hv
def kG(T:TypeId)(v:Value):Sem Next:=do pure (.value (←Instr.loadAt T v))
def qP(P:Program)(T:TypeId)(w:World)(b o:Nat):Option (Array Value)→Result Next
 |some cs=>.ok (.value (.agg cs)) w
 |none=>(kG T (.pointer (some ⟨b,o,none⟩))).run P w
theorem Ov(P:Program)(T:TypeId)(w:World)(b o:Nat)(cs:Array Value):qP P T w b o (some cs)=.ok (.value (.agg cs)) w:=rfl
theorem vO{P:Program}{T:TypeId}{d:TypeDesc}{n:Nat}(hu:P.underlying T=some d)(hd:d.isRow=true)(hi:(P.info? T).map (·.size)=some n)(w:World)(b o:Nat) :
  (kG T (.pointer (some ⟨b,o,none⟩))).run P w=qP P T w b o (row? w b o n):=by
 cases h:row? w b o n with
 |none=>rfl
 |some cs=>
  rw[Ov]
  have hs:=yc h
  have:=run_loadAt_mid (P:=P) w b o T cs.toList d (Ou h) hu hd (by rw[hi];simp[hs])
  simp only[kG,Sem.run_bind,this,Result.andThen_ok,Sem.run_pure]
theorem XJ{w:World}{cs:Array Value}{t:TypeId}{k n:Nat}(hk:k=w.heap.size)(hn:cs.size=n):row? (w.alloc (.cells cs t)) k 0 n=some cs:=by
 subst hk;subst hn
 have:(w.alloc (.cells cs t)).heap[w.heap.size]?=some (.cells cs t):=by show(w.heap.push _)[w.heap.size]?=_;simp
 unfold row?;rw[this];simp
def mF(cs:Array Value)(o n:Nat):Option (Array Value):=if o+n≤cs.size then some (cs.extract o (o+n))else none
theorem Il{cs:Array Value}{n:Nat}(hn:cs.size=n):mF cs 0 n=some cs:=by subst hn;simp[mF]
theorem Ox{w:World}{cs:Array Value}{t:TypeId}{k o n:Nat}(hk:k=w.heap.size):row? (w.alloc (.cells cs t)) k o n=mF cs o n:=by
 subst hk
 have:(w.alloc (.cells cs t)).heap[w.heap.size]?=some (.cells cs t):=by show(w.heap.push _)[w.heap.size]?=_;simp
 unfold row? mF;rw[this]
theorem Oy{w:World}{ob:Obj}{k o n:Nat}(hk:k<w.heap.size):row? (w.alloc ob) k o n=row? w k o n:=
 tJ (Below.heap_alloc w ob k hk) o n
theorem XK(w:World)(k o n:Nat):row? w.drew k o n=row? w k o n:=rfl
def kH(T:TypeId)(p v:Value):Sem Next:=do Instr.storeAt T p v;pure .skip
def aS(w:World)(b o n:Nat):Bool:=
 match w.heap[b]? with
 |some (.cells c _ f)=>decide (o+n≤c.size)&&decide (f=(0,0))
 |_=>false
def putRow(w:World)(b o:Nat)(cs:Array Value):World:=w.setCells b o cs.toList
def qQ(P:Program)(T:TypeId)(w:World)(b o:Nat)(cs:Array Value):Bool→Result Next
 |true=>.ok .skip (putRow w b o cs)
 |false=>(kH T (.pointer (some ⟨b,o,none⟩)) (.agg cs)).run P w
theorem Oz(P:Program)(T:TypeId)(w:World)(b o:Nat)(cs:Array Value):qQ P T w b o cs true=.ok .skip (putRow w b o cs):=rfl
theorem OA{w:World}{b o n:Nat}(h:aS w b o n=true):w.there b o n:=by
 unfold aS at h
 split at h
 ·rename_i c t f hb
  simp only[Bool.and_eq_true,decide_eq_true_eq]at h
  obtain⟨h1,rfl⟩:=h
  intro j hj
  exact⟨by rw[cell_of_row w b (o+j) c t _ hb];simp;omega,frozen_of_row w b (o+j) c t hb⟩
 ·cases h
def dG(cs:Array Value):Bool:=cs.all (·.oneCell')
theorem vP{P:Program}{T:TypeId}{n:Nat}(hi:(P.info? T).map (·.size)=some n)(w:World)(b o:Nat)(cs:Array Value)(hn:cs.size=n)(h1:dG cs=true) :
  (kH T (.pointer (some ⟨b,o,none⟩)) (.agg cs)).run P w=qQ P T w b o cs (aS w b o n):=by
 cases h:aS w b o n with
 |false=>rfl
 |true=>
  rw[Oz]
  have:=run_storeAt_mid (P:=P) w b o T cs (by rw[hn];exact OA h) (by rw[hi,hn]) h1
  simp only[kH,Sem.run_bind,this,Result.andThen_ok,Sem.run_pure]
  rfl
theorem XL{w:World}{cs:Array Value}{t:TypeId}{k o n:Nat}(hk:k=w.heap.size)(hn:o+n≤cs.size):aS (w.alloc (.cells cs t)) k o n=true:=by
 subst hk
 have:(w.alloc (.cells cs t)).heap[w.heap.size]?=some (.cells cs t):=by show(w.heap.push _)[w.heap.size]?=_;simp
 unfold aS;rw[this];simp[hn]
theorem XM{w:World}{ob:Obj}{k o n:Nat}(hk:k<w.heap.size):aS (w.alloc ob) k o n=aS w k o n:=by
 unfold aS;rw[Below.heap_alloc w ob k hk]
theorem DV{w w':World}{b:Nat}(h:w'.heap[b]?=w.heap[b]?)(o n:Nat):aS w' b o n=aS w b o n:=by unfold aS;rw[h]
theorem OB(w:World)(t:TypeId):∀(l:List Value) (o:Nat) (c:Array Value),(w.alloc (.cells c t)).setCells w.heap.size o l=w.alloc (.cells ((l.zipIdx o).foldl (fun c x=>c.setIfInBounds x.2 x.1) c) t)
 | [],_,_=>rfl
 |v::l,o,c=>by
  rw[World.setCells,World.setCell_alloc_at _ _ _ _ _ rfl,OB w t l (o+1)]
  rfl
theorem OC(pre:List Value):∀(l m:List Value),l.length=m.length→
  ((m.zipIdx pre.length).foldl (fun(c:Array Value) x=>c.setIfInBounds x.2 x.1) (pre++l).toArray)=(pre++m).toArray
 | [],[],_=>by simp
 |x::l,y::m,h=>by
  have ih:=OC (pre++[y]) l m (by simpa using h)
  simp only[List.zipIdx_cons,List.foldl_cons]
  have e:(pre++x::l).toArray.setIfInBounds pre.length y=((pre++[y])++l).toArray:=by simp
  rw[e]
  simpa using ih
theorem XN{w:World}{c cs:Array Value}{t:TypeId}{k:Nat}(hk:k=w.heap.size)(hn:c.size=cs.size):putRow (w.alloc (.cells c t)) k 0 cs=w.alloc (.cells cs t):=by
 subst hk
 unfold putRow
 rw[OB]
 have:=OC [] c.toList cs.toList (by simpa using hn)
 simp only[List.length_nil,List.nil_append]at this
 have e:c.toList.toArray=c:=by simp
 rw[e]at this
 rw[this]
attribute [go_sem] Oz XL XM XN
structure Later(W:World) where
 w:World
 b:Below W.heap.size W w
instance {W:World}:Nonempty (Later W):=⟨⟨W,Below.refl _ _⟩⟩
section
variable {W:World} (x:Later W) (b o:Nat) (h:b<W.heap.size)
include h
theorem Later.cell:x.w.cell? ⟨b,o,none⟩=W.cell? ⟨b,o,none⟩:=x.b.cell (p:=⟨b,o,none⟩) h
theorem Later.frozen:x.w.frozen? ⟨b,o,none⟩=W.frozen? ⟨b,o,none⟩:=x.b.frozen (p:=⟨b,o,none⟩) h
theorem Later.row(n:Nat):row? x.w b o n=row? W b o n:=tJ (x.b.block b h) o n
end
theorem dZ{P:Program}{id:Nat}{Q:Exit→Act→World→Prop}{a:Act}{W w:World}{l:List Oper}(hW:Below W.heap.size W w)(hm:P.follows .mixedOrders=true)(hB:Region.lexB .any l.toArray=true)
  (h:wpQuiet P l.toArray (fun w'=>∃x:Later W,w'=x.w) (fun a'=>∀w',Below W.heap.size W w'→Q .normal a' w') l a):(Code.region id l.toArray true).wp P Q a w:=by
 refine wp_region_quiet (C:=fun w'=>∃x:Later W,w'=x.w) hm hB ⟨⟨w.drew,hW.drew⟩,rfl⟩ ?_
 have:(fun a'=>∀w',(∃x:Later W,w'=x.w)→Q .normal a' w')=(fun a'=>∀w',Below W.heap.size W w'→Q .normal a' w'):=by
  funext a';apply propext
  exact⟨fun h w' hw'=>h w' ⟨⟨w',hw'⟩,rfl⟩,fun h w' ⟨x,hx⟩=>hx▸h _ x.b⟩
 rw[this]
 simpa using h
theorem Calls.qR{P:Program}{f:FuncId}{args:Array Value}{W:World}{x:Later W}{v:Value}
  (h:Calls P f args x.w fun e w'=>e=.returned v∧x.w=w'):Calls P f args x.w fun e w''=>e=.returned v∧∃y:Later W,w''=y.w:=
 h.mono fun _ _ ⟨he,hb⟩=>⟨he,x,hb.symm⟩
theorem Calls.iF{P:Program}{f:FuncId}{args:Array Value}{W:World}{x:Later W}{v:Value}
  (h:Calls P f args x.w fun e w'=>e=.returned v∧Below x.w.heap.size x.w w'):Calls P f args x.w fun e w''=>e=.returned v∧∃y:Later W,w''=y.w:=
 h.mono fun _ w' ⟨he,hb⟩=>⟨he,⟨w',x.b.trans (hb.mono x.b.size)⟩,rfl⟩
theorem aK{W w1:World}(hb:Below W.heap.size W w1):(∀b o,b<W.heap.size→w1.cell? ⟨b,o,none⟩=W.cell? ⟨b,o,none⟩)∧(∀b o,b<W.heap.size→w1.frozen? ⟨b,o,none⟩=W.frozen? ⟨b,o,none⟩)∧
  (∀b o n,b<W.heap.size→row? w1 b o n=row? W b o n):=
 ⟨fun b o h=>hb.cell (p:=⟨b,o,none⟩) h,fun b o h=>hb.frozen (p:=⟨b,o,none⟩) h,fun b o n h=>tJ (hb.block b h) o n⟩
attribute [go_sem] Ov Il Ox Oy XK Later.cell Later.frozen Later.row
end Go.WW
namespace Go.WW
open Go.RowKit
def ed(v:Nat):Nat→List UInt8
 |0=>[]
 |n+1=>ed (v / 256) n++[UInt8.ofNat v]
theorem jS:∀(n v:Nat),(ed v n).length=n
 |0,_=>rfl
 |n+1,v=>by rw[ed,List.length_append,jS n];rfl
theorem Io:∀(n v j:Nat),j<n→(ed v n)[j]?=some (UInt8.ofNat (v / 256 ^ (n-1-j)))
 |0,_,_,h=>absurd h (Nat.not_lt_zero _)
 |n+1,v,j,h=>by
  rw[ed]
  by_cases hj:j<n
  ·rw[List.getElem?_append_left (by rw[jS];exact hj),Io n (v / 256) j hj,Nat.div_div_eq_div_mul,←Nat.pow_succ',show n+1-1-j=(n-1-j)+1 by omega]
  ·rw[List.getElem?_append_right (by rw[jS];omega),jS,show j-n=0 by omega,show n+1-1-j=0 by omega]
   simp
def kU(v:Nat):Nat:=if h:v<128 then 1 else kU (v / 256)+1
termination_by v
decreasing_by omega
theorem Af{v:Nat}(h:v<128):kU v=1:=by unfold kU;rw[dif_pos h]
theorem DW{v:Nat}(h:¬v<128):kU v=kU (v / 256)+1:=by
 conv=>
  lhs
  unfold kU
 rw[dif_neg h]
def qf(v:Nat):List UInt8:=ed v (kU v)
def nJ(v:Nat):List UInt8:=if _h:v<256 then [UInt8.ofNat v]else nJ (v / 256)++[UInt8.ofNat v]
termination_by v
decreasing_by omega
theorem tK{v:Nat}(h:v<256):nJ v=[UInt8.ofNat v]:=by unfold nJ;rw[dif_pos h]
theorem DX{v:Nat}(h:¬v<256):nJ v=nJ (v / 256)++[UInt8.ofNat v]:=by
 conv=>
  lhs
  unfold nJ
 rw[dif_neg h]
theorem OD(v:Nat):nJ v≠[]:=by
 by_cases h:v<256
 ·rw[tK h];simp
 ·rw[DX h];simp
def lead:List UInt8→List UInt8
 | []=>[]
 |a::l=>if 128≤a.toNat then 0::a::l else a::l
theorem XO{l:List UInt8}(h:l≠[])(c:UInt8):lead (l++[c])=lead l++[c]:=by
 cases l with
 |nil=>exact absurd rfl h
 |cons a l=>
  simp only[List.cons_append,lead]
  by_cases h1:128≤a.toNat
  ·rw[if_pos h1,if_pos h1];rfl
  ·rw[if_neg h1,if_neg h1];rfl
theorem XP(v:Nat):qf v=lead (nJ v):=by
 induction v using Nat.strongRecOn with
 |_ v ih=>
  by_cases h1:v<128
  ·rw[qf,Af h1,tK (by omega),lead,if_neg (by simp;omega)]
   rfl
  ·have hs:qf v=qf (v / 256)++[UInt8.ofNat v]:=by rw[qf,DW h1,ed];rfl
   rw[hs,ih (v / 256) (by omega)]
   by_cases h2:v<256
   ·rw[show v / 256=0 by omega,tK h2,tK (by omega),lead,lead,if_neg (by decide),if_pos (by simp;omega)]
    rfl
   ·rw[DX h2,XO (OD _)]
theorem Ip:∀(k v:Nat),0<k→v<2 ^ (8*k-1)→kU v≤k
 |0,_,h,_=>absurd h (Nat.lt_irrefl 0)
 |1,v,_,h=>by rw[Af (by simpa using h)];exact Nat.le_refl _
 |k+2,v,_,h=>by
  by_cases h1:v<128
  ·rw[Af h1];omega
  ·rw[DW h1]
   have:=Ip (k+1) (v / 256) (by omega) (by
    rw[Nat.div_lt_iff_lt_mul (by decide)]
    have e:2 ^ (8*(k+1)-1)*256=2 ^ (8*(k+2)-1):=by rw[show(256:Nat)=2 ^ 8 from rfl,←Nat.pow_add];congr 1
    rw[e];exact h)
   omega
def XQ:Nat:=16777215
def mG(n:Nat):List UInt8:=
 if n<128 then [.ofNat n]else if n<256 then [0x81,.ofNat n]else if n<65536 then [0x82,.ofNat (n / 256),.ofNat n]else [0x83,.ofNat (n / 65536),.ofNat (n / 256),.ofNat n]
theorem Iq(n:Nat):(mG n).length≤4:=by unfold mG;split<;>(try split)<;>(try split)<;>simp
def tlv(t:Nat)(c:List UInt8):List UInt8:=UInt8.ofNat t::(mG c.length++c)
def amb(t:Nat)(c:List UInt8):List UInt8:=if c.length≤XQ then tlv t c else []
theorem mJ(t:Nat)(c:List UInt8):c.length<(tlv t c).length∧(tlv t c).length≤c.length+5:=by
 have:=Iq c.length
 simp[tlv];omega
def aB(n:Nat)(c:List UInt8):List UInt8:=if c.length=0 then []else tlv (160+n) c
def dE(l:List (List UInt8)):List UInt8:=tlv 48 l.flatten
def aA(v:Nat):List UInt8:=tlv 2 (qf v)
def bf(v:Nat):List UInt8:=tlv 24 (ed v 6)
def qg(v:Nat):List UInt8:=tlv 3 (0::ed v 4)
def dP(b:List UInt8):List UInt8:=tlv 4 b
def bM(s:ByteArray):List UInt8:=tlv 27 s.data.toList
def bU:Nat→List (List UInt8)→List (List UInt8)
 |_,[]=>[]
 |n,x::l=>aB n x::bU (n+1) l
def jT(l:List (List UInt8)):List UInt8:=dE (bU 0 l)
def bW(l:List (List UInt8)):List UInt8:=if l.length=0 then []else dE l
def fC(v:Nat):List UInt8:=if v=0 then []else aA v
def iK(v:Nat):List UInt8:=if v=0 then []else bf v
def jc(s:ByteArray):List UInt8:=if s.size=0 then []else bM s
theorem oH{n m:Nat}{c:List UInt8}(h:c.length≤m):(aB n c).length≤m+5:=by
 unfold aB;split
 ·simp
 ·have:=(mJ (160+n) c).2;omega
theorem yf:∀(l:List (List UInt8)) (n:Nat),(bU n l).length=l.length
 | [],_=>rfl
 |x::l,n=>by rw[bU,List.length_cons,List.length_cons,yf l]
theorem DY{m:Nat}:∀(l:List (List UInt8)),(∀x∈l,x.length≤m)→l.flatten.length≤l.length*m
 | [],_=>by simp
 |x::l,h=>by
  have h1:=DY l (fun y hy=>h y (by simp[hy]))
  have h2:=h x (by simp)
  rw[List.flatten_cons,List.length_append,List.length_cons,Nat.succ_mul];omega
theorem qh(l:List (List UInt8)):(dE l).length≤l.flatten.length+5:=(mJ 48 l.flatten).2
theorem XR{m:Nat}{l:List (List UInt8)}(h:∀x∈l,x.length≤m):(bW l).length≤l.length*m+5:=by
 unfold bW;split
 ·simp
 ·have:=qh l;have:=DY l h;omega
theorem jd{v k:Nat}(hk:0<k)(h:v<2 ^ (8*k-1)):(aA v).length≤k+5:=by
 have h1:=(mJ 2 (qf v)).2
 have h2:=Ip k v hk h
 have h3:(qf v).length=kU v:=jS _ _
 unfold aA;omega
theorem vS{v k:Nat}(hk:0<k)(h:v<2 ^ (8*k-1)):(fC v).length≤k+5:=by
 unfold fC;split
 ·simp
 ·exact jd hk h
theorem nM(v:Nat):(bf v).length≤11:=by
 have h1:=(mJ 24 (ed v 6)).2
 rw[jS]at h1;exact h1
theorem XT(v:Nat):(iK v).length≤11:=by
 unfold iK;split
 ·simp
 ·exact nM v
theorem XU(v:Nat):(qg v).length≤10:=by
 have h1:=(mJ 3 (0::ed v 4)).2
 rw[List.length_cons,jS]at h1;exact h1
theorem tN(b:List UInt8):(dP b).length≤b.length+5:=(mJ 4 b).2
theorem qU(s:ByteArray):(bM s).length≤s.size+5:=by
 have h1:=(mJ 27 s.data.toList).2
 have h2:s.data.toList.length=s.size:=by simp
 unfold bM;omega
theorem DZ(s:ByteArray):(jc s).length≤s.size+5:=by
 unfold jc;split
 ·simp
 ·exact qU s
section
variable {P:Program} {ops:Array Oper} {S:World→Prop} {st:Oper→Bool} {Q:Act→World→Prop}
abbrev never:Exit→Act→World→Prop:=fun _ _ _=>False
def bu(P:Program)(ops:Array Oper)(st:Oper→Bool)(S:World→Prop)(Q:Act→World→Prop):List Oper→Act→World→Prop
 | [],a,w=>Q a w
 |o::rest,a,w=>
  if Region.wanted o (yielded ops a.tmps)then
   if st o then ∃v,(∀w',S w'→(execOp a.eval o).run P w'=.ok (.value v) w')∧bu P ops st S Q rest (a.put o.dst v) w
   else o.wp P a w (fun a' w'=>S w'∧bu P ops st S Q rest a' w') never
  else bu P ops st S Q rest (a.put o.dst undef) w
theorem OE{o:Oper}{a:Act}{w:World}{K:Act→World→Prop}{Q':Exit→Act→World→Prop}(h:o.wp P a w K never):o.wp P a w K Q':=by
 unfold Oper.wp at *
 generalize (execOp a.eval o).run P w=r at *
 cases r with
 |ok n w'=>
  cases n<;>simp only[Oper.upon]at h ⊢<;>
   first
    |exact h
    |exact Calls.mono h (fun e w'' he=>by cases e<;>first|exact he|exact he.elim|(obtain⟨_,_,he⟩:=he;exact he.elim))
 |halt x w'=>cases x<;>simp only[Oper.upon,never]at h ⊢
theorem Ir{o:Oper}{a:Act}{w:World}{K:Act→World→Prop}(h:o.wp P a w K never) :
  o.wp P a w (fun a' w'=>(∃u ds,a'=({a with defers:=ds}:Act).put o.dst u)∧K a' w') never:=by
 unfold Oper.wp at *
 generalize (execOp a.eval o).run P w=r at *
 cases r with
 |ok n w'=>
  cases n<;>simp only[Oper.upon]at h ⊢<;>
   first
    |exact⟨⟨_,a.defers,rfl⟩,h⟩
    |exact⟨⟨_,_,rfl⟩,h⟩
    |exact Calls.mono h (fun e w'' he=>by cases e<;>first|exact⟨⟨_,a.defers,rfl⟩,he⟩|exact he)
    |exact Rows.mono h (fun _ _ he=>⟨⟨_,a.defers,rfl⟩,he⟩)
    |exact h
 |halt x w'=>cases x<;>simp only[Oper.upon,never]at h ⊢
theorem XV{o:Oper}{a:Act}{w:World}{K:Act→World→Prop}(h:o.wp P a w K never):∃a' w',K a' w':=by
 unfold Oper.wp at *
 generalize (execOp a.eval o).run P w=r at *
 cases r with
 |ok n w'=>
  cases n<;>simp only[Oper.upon]at h<;>
   first
    |exact⟨_,_,h⟩
    |(obtain⟨e,w'',fr,hR,_⟩:=h []
      cases e with
      |returned v=>exact⟨_,_,hR⟩
      |panicked c=>exact hR.elim
      |outgrown=>obtain⟨_,_,hR⟩:=hR;exact hR.elim)
    |(obtain⟨v,w'',hR,_⟩:=h default [];exact⟨_,_,hR⟩)
    |exact h.elim
 |halt x w'=>cases x<;>simp only[Oper.upon,never]at h
theorem D5{o:Oper}{a:Act}{w:World}{K:Act→World→Prop}{dst:Option Tmp}{v:Value}(hs:∀cs b,o.op≠.select cs b)
  (h1:∀d,dst=some d→d∉o.looksAt ops) (h2:∀d,dst=some d→o.dst≠some d) :
  o.wp P (a.put dst v) w K never↔o.wp P a w (fun a' w'=>K (a'.put dst v) w') never:=by
 unfold Oper.wp
 rw[execOp_put o hs a dst v h1]
 generalize (execOp a.eval o).run P w=r
 have hc:∀(b:Act) u,(b.put dst v).put o.dst u=(b.put o.dst u).put dst v:=fun b u=>Act.put_comm b v u h2
 have hd:∀d,({a.put dst v with defers:=d::(a.put dst v).defers}:Act)=({a with defers:=d::a.defers}:Act).put dst v:=fun d=>Act.put_defers a dst v d
 cases r with
 |ok n w'=>
  cases n<;>simp only[Oper.upon,hc,hd]
 |halt x w'=>cases x<;>simp only[Oper.upon]
theorem iG(o:Oper)(rest:List Oper)(a:Act)(w:World):bu P ops st S Q (o::rest) a w =
  (if Region.wanted o (yielded ops a.tmps)then
   if st o then ∃v,(∀w',S w'→(execOp a.eval o).run P w'=.ok (.value v) w')∧bu P ops st S Q rest (a.put o.dst v) w
   else o.wp P a w (fun a' w'=>S w'∧bu P ops st S Q rest a' w') never
  else bu P ops st S Q rest (a.put o.dst undef) w):=rfl
theorem XW{o:Oper}{M M':List Oper}{a:Act}{w:World}(hS:S w)(h:∀a' w',S w'→bu P ops st S Q M a' w'→bu P ops st S Q M' a' w')
  (hh:bu P ops st S Q (o::M) a w):bu P ops st S Q (o::M') a w:=by
 rw[iG]at *
 split
 ·rename_i hw
  simp only[hw,if_true]at hh
  split
  ·rename_i hs
   simp only[hs,if_true]at hh
   obtain⟨v,h1,h2⟩:=hh
   exact⟨v,h1,h _ _ hS h2⟩
  ·rename_i hs
   simp only[hs]at hh
   exact Oper.wp_mono (fun a' w' ⟨x,y⟩=>⟨x,h _ _ x y⟩) hh
 ·rename_i hw
  simp only[hw]at hh
  exact h _ _ hS hh
theorem XX{x o:Oper}{L:List Oper}{a:Act}{w:World}(hx:∀cs b,x.op≠.select cs b)(ho:∀cs b,o.op≠.select cs b)
  (hap:x.apart ops o=true) (hst:st x=true∨st o=true) (h:bu P ops st S Q (x::o::L) a w):bu P ops st S Q (o::x::L) a w:=by
 obtain⟨h1,h2,h3⟩:=Oper.apart_spec hap
 have h2':∀d,o.dst=some d→x.dst≠some d:=fun d hd hxd=>h2 d hxd hd
 have wo:∀(b:Act) v,Region.wanted o (yielded ops (b.put x.dst v).tmps)=Region.wanted o (yielded ops b.tmps):=fun b v=>wanted_put o b x.dst v h1
 have wx:∀(b:Act) v,Region.wanted x (yielded ops (b.put o.dst v).tmps)=Region.wanted x (yielded ops b.tmps):=fun b v=>wanted_put x b o.dst v h3
 have eo:∀(b:Act) v,execOp (b.put x.dst v).eval o=execOp b.eval o:=fun b v=>execOp_put o ho b x.dst v h1
 have ex:∀(b:Act) v,execOp (b.put o.dst v).eval x=execOp b.eval x:=fun b v=>execOp_put x hx b o.dst v h3
 have hc:∀(b:Act) v u,(b.put x.dst v).put o.dst u=(b.put o.dst u).put x.dst v:=fun b v u=>Act.put_comm b v u h2
 rw[iG]at h ⊢
 by_cases hwx:Region.wanted x (yielded ops a.tmps)=true
 ·rw[if_pos hwx]at h
  by_cases hsx:st x=true
  ·rw[if_pos hsx]at h
   obtain⟨v,hv,h⟩:=h
   rw[iG,wo,eo]at h
   by_cases hwo:Region.wanted o (yielded ops a.tmps)=true
   ·rw[if_pos hwo]at h ⊢
    by_cases hso:st o=true
    ·rw[if_pos hso]at h ⊢
     obtain⟨u,hu,h⟩:=h
     refine⟨u,hu,?_⟩
     rw[iG,wx,if_pos hwx,if_pos hsx,ex]
     exact⟨v,hv,by rw[←hc];exact h⟩
    ·rw[if_neg hso]at h ⊢
     have h':=Ir ((D5 ho h1 h2).1 h)
     refine Oper.wp_mono ?_ h'
     rintro a' w' ⟨⟨u,ds,rfl⟩,hS',h⟩
     refine⟨hS',?_⟩
     rw[iG,wx,show Region.wanted x (yielded ops ({a with defers:=ds}:Act).tmps)=true from hwx,if_pos rfl,if_pos hsx,ex]
     exact⟨v,hv,h⟩
   ·rw[if_neg hwo]at h ⊢
    rw[iG,wx,if_pos hwx,if_pos hsx,ex]
    exact⟨v,hv,by rw[←hc];exact h⟩
  ·have hso:st o=true:=hst.resolve_left hsx
   rw[if_neg hsx]at h
   have h':=Ir h
   by_cases hwo:Region.wanted o (yielded ops a.tmps)=true
   ·rw[if_pos hwo,if_pos hso]
    have key:∀a' w',((∃u ds,a'=({a with defers:=ds}:Act).put x.dst u)∧S w'∧bu P ops st S Q (o::L) a' w')→
      ∃v,(∀w',S w'→(execOp a.eval o).run P w'=.ok (.value v) w')∧S w'∧bu P ops st S Q L (a'.put o.dst v) w':=by
     rintro a' w' ⟨⟨u,ds,rfl⟩,hS',hh⟩
     rw[iG,wo,show Region.wanted o (yielded ops ({a with defers:=ds}:Act).tmps)=true from hwo,if_pos rfl,if_pos hso,eo]at hh
     obtain⟨v,hv,hh⟩:=hh
     exact⟨v,hv,hS',hh⟩
    obtain⟨a1,w1,h1'⟩:=XV h'
    obtain⟨v,hv,_⟩:=key _ _ h1'
    refine⟨v,hv,?_⟩
    rw[iG,wx,if_pos hwx,if_neg hsx,D5 hx h3 h2']
    refine Oper.wp_mono ?_ h'
    intro a' w' hh
    obtain⟨v',hv',hS',hh⟩:=key _ _ hh
    have e:v'=v:=by
     have:=(hv' _ hS').symm.trans (hv _ hS')
     simpa using this
    subst e
    exact⟨hS',hh⟩
   ·rw[if_neg hwo,iG,wx,if_pos hwx,if_neg hsx,D5 hx h3 h2']
    refine Oper.wp_mono ?_ h'
    rintro a' w' ⟨⟨u,ds,rfl⟩,hS',hh⟩
    rw[iG,wo,show Region.wanted o (yielded ops ({a with defers:=ds}:Act).tmps)=false from by simpa using hwo,if_neg (by simp)]at hh
    exact⟨hS',hh⟩
 ·rw[if_neg hwx]at h
  rw[iG,wo,eo]at h
  by_cases hwo:Region.wanted o (yielded ops a.tmps)=true
  ·rw[if_pos hwo]at h ⊢
   by_cases hso:st o=true
   ·rw[if_pos hso]at h ⊢
    obtain⟨u,hu,h⟩:=h
    refine⟨u,hu,?_⟩
    rw[iG,wx,if_neg hwx,←hc]
    exact h
   ·rw[if_neg hso]at h ⊢
    have h':=Ir ((D5 ho h1 h2).1 h)
    refine Oper.wp_mono ?_ h'
    rintro a' w' ⟨⟨u,ds,rfl⟩,hS',h⟩
    refine⟨hS',?_⟩
    rw[iG,wx,show Region.wanted x (yielded ops ({a with defers:=ds}:Act).tmps)=false from by simpa using hwx,if_neg (by simp)]
    exact h
  ·rw[if_neg hwo]at h ⊢
   rw[iG,wx,if_neg hwx,←hc]
   exact h
theorem qi{o:Oper}{L2:List Oper}(ho:∀cs b,o.op≠.select cs b):∀(L1:List Oper),(∀x∈L1,(∀cs b,x.op≠.select cs b)∧x.apart ops o=true∧(st x=true∨st o=true))→
  ∀(a:Act) (w:World),S w→bu P ops st S Q (L1++o::L2) a w→bu P ops st S Q (o::(L1++L2)) a w
 | [],_,_,_,_,h=>h
 |x::L1,hall,a,w,hS,h=>by
  have hx:=hall x (by simp)
  refine XX hx.1 ho hx.2.1 hx.2.2 ?_
  exact XW hS (fun a' w' hS' hh=>qi ho L1 (fun y hy=>hall y (by simp[hy])) a' w' hS' hh) h
def Ag(st:Oper→Bool)(ops:Array Oper):Array (List Nat):=
 ops.foldl (fun acc o=>acc.push (((o.after.toList.filter (Region.binds .any ·)).flatMap fun e=>(if((ops[e.on]?).map st).getD true then []else [e.on])++acc.getD e.on []).eraseDups)) #[]
def Ah(st:Oper→Bool)(ops:Array Oper):Bool:=
 let m:=Ag st ops
 Region.noSelect ops&&(List.range ops.size).all fun j=>match ops[j]? with
  |none=>true
  |some oj=>
   oj.after.toList.all (fun e=>!Region.binds .any e || decide (e.on<j))&&
   (m.getD j []).all (fun i=>oj.after.toList.any fun e=>Region.binds .any e&&(e.on == i || (m.getD e.on []).contains i))&&
   (List.range j).all fun i=>match ops[i]? with
    |none=>true
    |some oi=>oj.after.toList.any (fun e=>Region.binds .any e&&e.on == i) || (oi.apart ops oj&&(st oi || st oj || (m.getD j []).contains i))
structure Iu(st:Oper→Bool)(ops:Array Oper)(m:Array (List Nat)):Prop where
 tV:Region.noSelect ops=true
 back:∀j oj,ops[j]?=some oj→∀e∈oj.after,Region.binds .any e=true→e.on<j
 pred:∀j oj,ops[j]?=some oj→∀i∈m.getD j [],∃e∈oj.after,Region.binds .any e=true∧(e.on=i∨i∈m.getD e.on [])
 pair:∀j oj,ops[j]?=some oj→∀i,i<j→∀oi,ops[i]?=some oi→(∃e∈oj.after,Region.binds .any e=true∧e.on=i)∨(oi.apart ops oj=true∧(st oi=true∨st oj=true∨i∈m.getD j []))
theorem XY(h:Ah st ops=true):Iu st ops (Ag st ops):=by
 unfold Ah at h
 simp only[Bool.and_eq_true,List.all_eq_true,List.mem_range]at h
 obtain⟨hs,h⟩:=h
 have lt:∀{j:Nat} {oj:Oper},ops[j]?=some oj→j<ops.size:=fun hj=>(Array.getElem?_eq_some_iff.1 hj).1
 refine⟨hs,fun j oj hj=>?_,fun j oj hj=>?_,fun j oj hj=>?_⟩
 all_goals
  have hh:=h j (lt hj)
  simp only[hj,Bool.and_eq_true,List.all_eq_true,List.mem_range]at hh
  obtain⟨⟨h1,h2⟩,h3⟩:=hh
 ·intro e he hb
  have:=h1 e (by simpa using he)
  simpa[hb]using this
 ·intro i hi
  have:=h2 i hi
  simp only[List.any_eq_true,Bool.and_eq_true,Bool.or_eq_true,beq_iff_eq,List.contains_iff_mem]at this
  obtain⟨e,he,hb,hor⟩:=this
  exact⟨e,by simpa using he,hb,hor⟩
 ·intro i hi oi ho
  have:=h3 i hi
  simp only[ho,Bool.or_eq_true,List.any_eq_true,Bool.and_eq_true,beq_iff_eq,List.contains_iff_mem]at this
  rcases this with⟨e,he,hb,hor⟩|⟨ha,hor⟩
  ·exact .inl ⟨e,by simpa using he,hb,hor⟩
  ·exact .inr ⟨ha,by rcases hor with(h|h)|h;exact .inl h;exact .inr (.inl h);exact .inr (.inr h)⟩
theorem XZ{m:Array (List Nat)}(hok:Iu st ops m){listed:Array Bool}
  (hdown:∀k o,ops[k]?=some o→listed.getD k false=true→∀e∈o.after,Region.binds .any e=true→listed.getD e.on false=true) :
  ∀(j:Nat) (oj:Oper),ops[j]?=some oj→(∀e∈oj.after,Region.binds .any e=true→listed.getD e.on false=true)→∀i∈m.getD j [],listed.getD i false=true:=by
 intro j
 induction j using Nat.strongRecOn with
 |_ j ih=>
  intro oj hj hall i hi
  obtain⟨e,he,hb,hor⟩:=hok.pred j oj hj i hi
  rcases hor with rfl|hor
  ·exact hall e he hb
  ·have hlt:=hok.back j oj hj e he hb
   have hjs:j<ops.size:=(Array.getElem?_eq_some_iff.1 hj).1
   have hoe:ops[e.on]?=some (ops[e.on]'(by omega)):=by simp
   exact ih e.on hlt _ hoe (hdown _ _ hoe (hall e he hb)) i hor
theorem OG{listed:Array Bool}{i:Nat}(h:listed.getD i false=true):listed.getD i true=true:=by
 rcases Nat.lt_or_ge i listed.size with h'|h'
 ·simp[h']at h ⊢;exact h
 ·simp[Array.getElem?_eq_none h']at h
theorem X0{m:Array (List Nat)}(hok:Iu st ops m){Q':Exit→Act→World→Prop}(hQ:∀a w,Q a w→Q' .normal a w) :
  ∀(n:Nat) (L:List Nat) (listed:Array Bool) (a:Act) (w:World),L.length=n→L.Pairwise (· < ·)→listed.size=ops.size→(∀j,j∈L↔j<ops.size∧listed.getD j true=false)→
   (∀k o,ops[k]?=some o→listed.getD k false=true→∀e∈o.after,Region.binds .any e=true→listed.getD e.on false=true)→
   S w→bu P ops st S Q (L.filterMap (ops[·]?)) a w→wpAny P .any ops Q' n listed a w:=by
 intro n
 induction n with
 |zero=>
  intro L listed a w hn _ hsz hL _ _ h
  have:L=[]:=List.eq_nil_of_length_eq_zero hn
  subst this
  refine⟨?_,hQ _ _ h⟩
  cases hr:Region.ready .any ops listed with
  |nil=>rfl
  |cons i r=>
   have hi:i∈Region.ready .any ops listed:=by rw[hr];simp
   obtain⟨h0,o,ho,_⟩:=mem_ready.1 hi
   have:=(hL i).2 ⟨(Array.getElem?_eq_some_iff.1 ho).1,h0⟩
   cases this
 |succ n ih=>
  intro L listed a w hn hsort hsz hL hdown hS h
  refine⟨fun hr=>?_,fun i hi=>?_⟩
  ·exfalso
   cases L with
   |nil=>simp at hn
   |cons j L=>
    obtain⟨hj,hjl⟩:=(hL j).1 (by simp)
    have hoj:ops[j]?=some ops[j]:=by simp[hj]
    have:j∈Region.ready .any ops listed:=by
     refine mem_ready.2 ⟨hjl,_,hoj,fun e he hb=>?_⟩
     have hlt:=hok.back j _ hoj e he hb
     have hnot:e.on∉j::L:=by
      intro hmem
      rcases List.mem_cons.1 hmem with h1|h1
      ·omega
      ·have:=(List.pairwise_cons.1 hsort).1 _ h1;omega
     have h2:listed.getD e.on true≠false:=fun hf=>hnot ((hL e.on).2 ⟨by omega,hf⟩)
     have hes:e.on<listed.size:=by omega
     simp[hes]at h2 ⊢;exact h2
    rw[hr]at this;cases this
  ·obtain⟨h0,o,ho,hall⟩:=mem_ready.1 hi
   have his:i<ops.size:=(Array.getElem?_eq_some_iff.1 ho).1
   have hiL:i∈L:=(hL i).2 ⟨his,h0⟩
   obtain⟨L1,L2,rfl⟩:=List.append_of_mem hiL
   have oW:=List.pairwise_append.1 hsort
   have hlt1:∀x∈L1,x<i:=fun x hx=>oW.2.2 x hx i (by simp)
   have hgt2:∀x∈L2,i<x:=fun x hx=>(List.pairwise_cons.1 oW.2.1).1 x hx
   rw[List.filterMap_append,List.filterMap_cons_some ho]at h
   have kJ:=qi (P:=P) (ops:=ops) (S:=S) (st:=st) (Q:=Q) (Region.noSelect_spec hok.tV i o · · ho) (L1.filterMap (ops[·]?)) (fun x hx=>by
    obtain⟨k,hk,hox⟩:=List.mem_filterMap.1 hx
    have hkl:=((hL k).1 (by simp[hk])).2
    have hnl:¬listed.getD k false=true:=fun hf=>by rw[OG hf]at hkl;cases hkl
    refine⟨(Region.noSelect_spec hok.tV k x · · hox),?_⟩
    rcases hok.pair i o ho k (hlt1 k hk) x hox with⟨e,he,hb,rfl⟩|⟨hap,hor⟩
    ·exact absurd (hall e he hb) hnl
    ·refine⟨hap,?_⟩
     rcases hor with h1|h1|h1
     ·exact .inl h1
     ·exact .inr h1
     ·exact absurd (XZ hok hdown i o ho hall k h1) hnl) a w hS h
   have hrest:∀a' w',S w'→bu P ops st S Q (L1.filterMap (ops[·]?)++L2.filterMap (ops[·]?)) a' w'→wpAny P .any ops Q' n (listed.setIfInBounds i true) a' w':=by
    intro a' w' hS' hh
    rw[←List.filterMap_append]at hh
    refine ih (L1++L2) (listed.setIfInBounds i true) a' w' ?_ ?_ (by simpa using hsz) ?_ ?_ hS' hh
    ·simp at hn ⊢;omega
    ·exact List.pairwise_append.2 ⟨oW.1,(List.pairwise_cons.1 oW.2.1).2,fun x hx y hy=>oW.2.2 x hx y (by simp[hy])⟩
    ·intro j
     by_cases hji:j=i
     ·subst hji
      constructor
      ·intro hm
       exfalso
       rcases List.mem_append.1 hm with h1|h1
       ·have:=hlt1 _ h1;omega
       ·have:=hgt2 _ h1;omega
      ·rintro⟨_,hf⟩
       have:j<listed.size:=by omega
       simp[this]at hf
     ·rw[getD_set_ne true (Ne.symm hji),←hL j]
      simp[hji]
    ·intro k ok hk hkl e he hb
     by_cases hki:k=i
     ·subst hki
      rw[ho]at hk;cases hk
      exact getD_set_true (hall e he hb)
     ·rw[getD_set_ne false (Ne.symm hki)]at hkl
      exact getD_set_true (hdown k ok hk hkl e he hb)
   unfold wpOp
   simp only[ho]
   rw[iG]at kJ
   split
   ·rename_i hw
    rw[if_pos hw]at kJ
    refine .inl ?_
    by_cases hs:st o=true
    ·rw[if_pos hs]at kJ
     obtain⟨v,hv,hh⟩:=kJ
     unfold Oper.wp
     rw[hv w hS]
     exact hrest _ _ hS hh
    ·rw[if_neg hs]at kJ
     exact OE (Oper.wp_mono (fun a' w' hh=>hrest a' w' hh.1 hh.2) kJ)
   ·rename_i hw
    rw[if_neg hw]at kJ
    exact hrest _ _ hS kJ
theorem D6{id:Nat}{Q':Exit→Act→World→Prop}{a:Act}{w:World}{l:List Oper}(S:World→Prop)(st:Oper→Bool)(hm:P.follows .mixedOrders=true)(hB:Ah st l.toArray=true)
  (hS:S w.drew) (h:bu P l.toArray st S (fun a' w'=>Q' .normal a' w') l a w.drew):(Code.region id l.toArray true).wp P Q' a w:=by
 refine wp_region_any hm ?_
 have hfm:(List.range l.toArray.size).filterMap (l.toArray[·]?)=l:=by
  apply List.ext_getElem?
  intro i
  have:∀n,(List.range n).filterMap (fun i=>l.toArray[i]?)=l.take n:=by
   intro n
   induction n with
   |zero=>simp
   |succ n ih=>
    rw[List.range_succ,List.filterMap_append,ih]
    by_cases hn:n<l.length
    ·rw[List.take_succ_eq_append_getElem hn];simp[hn]
    ·simp[hn,List.take_of_length_le (show l.length≤n by omega),List.take_of_length_le (show l.length≤n+1 by omega)]
  rw[this];simp
 have:=X0 (P:=P) (S:=S) (Q:=fun a' w'=>Q' .normal a' w') (XY hB) (Q':=Q') (fun _ _ h=>h) l.toArray.size (List.range l.toArray.size) (Array.replicate l.toArray.size false) a w.drew
  (by simp) List.pairwise_lt_range (by simp) (by intro j;simp;intro h;simp[h]) (by intro k o hk hkl;exfalso;rw[Array.getD_eq_getD_getElem?,Array.getElem?_replicate]at hkl;split at hkl<;>simp at hkl) hS (by rw[hfm];exact h)
 exact this
def looks(o:Oper):Bool:=
 match o.op with
 | .move _ | .assign _ | .pick .. | .load .. | .binOp .. | .unOp .. | .makeInterface .. | .makeFunc .. | .slice .. | .fieldAddr .. | .field .. | .indexAddr .. | .index .. | .lookup .. | .extract .. | .build .. | .convert ..=>true
 | .call {callee:=.builtin b,..}=>match b with | .len | .cap | .min | .max=>true|_=>false
 |_=>false
theorem OH(s:Sem Value)(w:World):(∃v w',((do pure (.value (←s)):Sem Next)).run P w=.ok (.value v) w')∨∃h w',((do pure (.value (←s)):Sem Next)).run P w=.halt h w':=by
 rw[Sem.run_bind]
 cases s.run P w with
 |ok v w'=>exact .inl ⟨v,w',by simp⟩
 |halt h w'=>exact .inr ⟨h,w',by simp⟩
theorem Iw{o:Oper}(h:looks o=true)(ρ:Operand→Value)(w:World):(∃v w',(execOp ρ o).run P w=.ok (.value v) w')∨∃h w',(execOp ρ o).run P w=.halt h w':=by
 obtain⟨dst,op,type,pos,after,guard⟩:=o
 cases op<;>simp only[looks,Bool.false_eq_true]at h<;>simp only[execOp]
 case move x=>exact .inl ⟨_,w,rfl⟩
 case assign x=>exact .inl ⟨_,w,rfl⟩
 case pick c a b=>
  rw[Sem.run_bind]
  cases (asBool (ρ c)).run P w with
  |ok v w'=>exact .inl ⟨_,w',by simp;rfl⟩
  |halt h w'=>exact .inr ⟨h,w',by simp⟩
 case call c=>
  obtain⟨callee,args,ats⟩:=c
  cases callee with
  |value f=>simp at h
  |invoke r m=>simp at h
  |builtin b=>cases b<;>simp at h<;>exact OH _ w
 all_goals exact OH _ w
theorem iH{a:Act}{w:World}(h:Q a w):bu P ops st S Q [] a w:=h
theorem ah{o:Oper}{rest:List Oper}{a:Act}{w:World}(hw:Region.wanted o (yielded ops a.tmps)=false)(h:bu P ops st S Q rest (a.put o.dst undef) w):bu P ops st S Q (o::rest) a w:=by
 rw[iG,if_neg (by simp[hw])];exact h
theorem ai{o:Oper}{rest:List Oper}{a:Act}{w:World}(hw:Region.wanted o (yielded ops a.tmps)=true)(hs:looks o=true)
  (h:∀K:Act→Prop,(∀a',bu P ops looks S Q rest a' w→K a')→o.quiet P a S K):bu P ops looks S Q (o::rest) a w:=by
 rw[iG,if_pos hw,if_pos hs]
 obtain⟨v,hv,hh⟩:=h _ (fun _ x=>x)
 refine⟨v,fun w' hw'=>?_,hh⟩
 have:=hv w' hw'
 unfold Oper.quietAt at this
 rcases Iw (P:=P) hs a.eval w' with⟨u,w'',e⟩|⟨x,w'',e⟩
 ·rw[e]at this ⊢
  obtain⟨rfl,rfl⟩:=this
  rfl
 ·rw[e]at this
  exact this.elim
theorem au{o:Oper}{rest:List Oper}{a:Act}{w:World}(hw:Region.wanted o (yielded ops a.tmps)=true)(hs:looks o=false)
  (h:∀K:Act→World→Prop,(∀a' w',S w'→bu P ops looks S Q rest a' w'→K a' w')→o.wp P a w K never):bu P ops looks S Q (o::rest) a w:=by
 rw[iG,if_pos hw,if_neg (by simp[hs])]
 exact h _ (fun _ _ x y=>⟨x,y⟩)
end
abbrev since(w:World):World→Prop:=fun w'=>∃x:Later w,w'=x.w
theorem jr{P:Program}{id:Nat}{Q':Exit→Act→World→Prop}{a:Act}{W w:World}{l:List Oper}(hW:Below W.heap.size W w)(hm:P.follows .mixedOrders=true)(hB:Ah looks l.toArray=true)
  (h:∀w1,Below W.heap.size W w1→bu P l.toArray looks (since W) (fun a' w'=>Q' .normal a' w') l a w1):(Code.region id l.toArray true).wp P Q' a w:=
 D6 (since W) looks hm hB ⟨⟨w.drew,hW.drew⟩,rfl⟩ (h _ hW.drew)
theorem ak{W w:World}(h:Below W.heap.size W w):since W w:=⟨⟨w,h⟩,rfl⟩
theorem af{W w w':World}(h:Below W.heap.size W w)(h':Below w.heap.size w w'):Below W.heap.size W w':=h.trans (h'.mono h.size)
theorem az{W w:World}(h:Below W.heap.size W w)(o:Obj):Below W.heap.size W (w.alloc o):=h.alloc h.size o
end Go.WW
namespace Go.WW
structure Sl where
 a:Option Addr
 cap:Nat
structure aG where
 parts:List ByteArray
 aQ:ByteArray
structure Key where
 profile:Int
 version:Int
 bytes:List UInt8
structure aW where
 version:Int
 keys:List Key
 bF:ByteArray
 dm:Int
 created:Int
structure Entry where
 name:aG
 aliases:List aG
 attrs:Int
 dF:Int
 keys:List aW
 dn:ByteArray
 fQ:Int
 fU:Int
 fF:Int
 fG:Int
 fails:Int
 eP:Int
 gq:Int
 targets:List aG
 aP:List aG
 history:List (List UInt8)
structure aO where
 name:ByteArray
 length:Int
 classes:Int
 distinct:Int
 history:Int
 gZ:Int
 dU:Int
 fails:Int
 window:Int
 lock:Int
structure aC where
 parts:Sl
 aliases:Sl
 keys:Sl
 targets:Sl
 aP:Sl
 history:Sl
def aJ(s:Sl)(p:aG):Array Value:=#[.slice s.a p.parts.length s.cap,.string p.aQ]
theorem Ai(s:Sl)(p:aG):(aJ s p).size=2:=by simp[aJ]
theorem OI(s:Sl)(p:aG):dG (aJ s p)=true:=by simp[dG,aJ,Value.oneCell']
theorem X3(s:Sl)(p:aG)(h:0<(aJ s p).size):(aJ s p)[0]'h=.slice s.a p.parts.length s.cap:=by simp[aJ]
theorem OJ(s:Sl)(p:aG):(aJ s p)[1]?=some (.string p.aQ):=by simp[aJ]
theorem X4(s:Sl)(p:aG)(h:1<(aJ s p).size):(aJ s p)[1]'h=.string p.aQ:=by simp[aJ]
attribute [go_sem] Ai OI X3 OJ X4
def bG(s:Sl)(k:Key):Array Value:=#[.int .i64 k.profile,.int .i64 k.version,.slice s.a k.bytes.length s.cap]
theorem X5(s:Sl)(k:Key):(bG s k).size=3:=by simp[bG]
theorem X6(s:Sl)(k:Key):dG (bG s k)=true:=by simp[dG,bG,Value.oneCell']
theorem X7(s:Sl)(k:Key)(h:0<(bG s k).size):(bG s k)[0]'h=.int .i64 k.profile:=by simp[bG]
theorem X8(s:Sl)(k:Key)(h:1<(bG s k).size):(bG s k)[1]'h=.int .i64 k.version:=by simp[bG]
theorem X9(s:Sl)(k:Key)(h:2<(bG s k).size):(bG s k)[2]'h=.slice s.a k.bytes.length s.cap:=by simp[bG]
attribute [go_sem] X5 X6 X7 X8 X9
def aV(s:Sl)(k:aW):Array Value:=#[.int .i64 k.version,.slice s.a k.keys.length s.cap,.string k.bF,.int .i64 k.dm,.int .i64 k.created]
theorem Ya(s:Sl)(k:aW):(aV s k).size=5:=by simp[aV]
theorem Yb(s:Sl)(k:aW):dG (aV s k)=true:=by simp[dG,aV,Value.oneCell']
theorem Iy(s:Sl)(k:aW):(aV s k)[0]?=some (.int .i64 k.version):=by simp[aV]
theorem Yc(s:Sl)(k:aW)(h:0<(aV s k).size):(aV s k)[0]'h=.int .i64 k.version:=by simp[aV]
theorem Yd(s:Sl)(k:aW)(h:1<(aV s k).size):(aV s k)[1]'h=.slice s.a k.keys.length s.cap:=by simp[aV]
theorem Ye(s:Sl)(k:aW)(h:2<(aV s k).size):(aV s k)[2]'h=.string k.bF:=by simp[aV]
theorem Yf(s:Sl)(k:aW)(h:3<(aV s k).size):(aV s k)[3]'h=.int .i64 k.dm:=by simp[aV]
theorem Iz(s:Sl)(k:aW):(aV s k)[4]?=some (.int .i64 k.created):=by simp[aV]
theorem Yg(s:Sl)(k:aW)(h:4<(aV s k).size):(aV s k)[4]'h=.int .i64 k.created:=by simp[aV]
attribute [go_sem] Ya Yb Iy Yc Yd Ye Yf Iz Yg
def ay(r:aC)(d:Entry):Array Value:=#[.slice r.parts.a d.name.parts.length r.parts.cap,.string d.name.aQ,.slice r.aliases.a d.aliases.length r.aliases.cap,.int .u32 d.attrs,.int .i64 d.dF,.slice r.keys.a d.keys.length r.keys.cap,.string d.dn,.int .i64 d.fQ,.int .i64 d.fU,.int .i64 d.fF,.int .i64 d.fG,.int .i64 d.fails,.int .i64 d.eP,.int .i64 d.gq,.slice r.targets.a d.targets.length r.targets.cap,.slice r.aP.a d.aP.length r.aP.cap,.slice r.history.a d.history.length r.history.cap]
theorem OL(r:aC)(d:Entry):(ay r d).size=17:=by simp[ay]
theorem Yh(r:aC)(d:Entry):dG (ay r d)=true:=by simp[dG,ay,Value.oneCell']
theorem Yi(r:aC)(d:Entry)(h:1<(ay r d).size):(ay r d)[1]'h=.string d.name.aQ:=by simp[ay]
theorem Yj(r:aC)(d:Entry)(h:2<(ay r d).size):(ay r d)[2]'h=.slice r.aliases.a d.aliases.length r.aliases.cap:=by simp[ay]
theorem Yk(r:aC)(d:Entry)(h:3<(ay r d).size):(ay r d)[3]'h=.int .u32 d.attrs:=by simp[ay]
theorem Yl(r:aC)(d:Entry)(h:4<(ay r d).size):(ay r d)[4]'h=.int .i64 d.dF:=by simp[ay]
theorem Ym(r:aC)(d:Entry)(h:5<(ay r d).size):(ay r d)[5]'h=.slice r.keys.a d.keys.length r.keys.cap:=by simp[ay]
theorem Yn(r:aC)(d:Entry)(h:6<(ay r d).size):(ay r d)[6]'h=.string d.dn:=by simp[ay]
theorem Yo(r:aC)(d:Entry)(h:7<(ay r d).size):(ay r d)[7]'h=.int .i64 d.fQ:=by simp[ay]
theorem Yp(r:aC)(d:Entry)(h:8<(ay r d).size):(ay r d)[8]'h=.int .i64 d.fU:=by simp[ay]
theorem Yq(r:aC)(d:Entry)(h:9<(ay r d).size):(ay r d)[9]'h=.int .i64 d.fF:=by simp[ay]
theorem Yr(r:aC)(d:Entry)(h:10<(ay r d).size):(ay r d)[10]'h=.int .i64 d.fG:=by simp[ay]
theorem Yt(r:aC)(d:Entry)(h:11<(ay r d).size):(ay r d)[11]'h=.int .i64 d.fails:=by simp[ay]
theorem Yu(r:aC)(d:Entry)(h:12<(ay r d).size):(ay r d)[12]'h=.int .i64 d.eP:=by simp[ay]
theorem Yv(r:aC)(d:Entry)(h:13<(ay r d).size):(ay r d)[13]'h=.int .i64 d.gq:=by simp[ay]
theorem Yw(r:aC)(d:Entry)(h:14<(ay r d).size):(ay r d)[14]'h=.slice r.targets.a d.targets.length r.targets.cap:=by simp[ay]
theorem Yx(r:aC)(d:Entry)(h:15<(ay r d).size):(ay r d)[15]'h=.slice r.aP.a d.aP.length r.aP.cap:=by simp[ay]
theorem Yy(r:aC)(d:Entry)(h:16<(ay r d).size):(ay r d)[16]'h=.slice r.history.a d.history.length r.history.cap:=by simp[ay]
theorem Yz(r:aC)(d:Entry)(v:Int):(ay r d).setIfInBounds 4 (.int .i64 v)=ay r {d with dF:=v}:=by kernel_rfl
theorem YA(r:aC)(d:Entry)(v:Int):(ay r d).setIfInBounds 7 (.int .i64 v)=ay r {d with fQ:=v}:=by kernel_rfl
theorem YB(r:aC)(d:Entry)(v:Int):(ay r d).setIfInBounds 8 (.int .i64 v)=ay r {d with fU:=v}:=by kernel_rfl
theorem YC(r:aC)(d:Entry)(v:Int):(ay r d).setIfInBounds 9 (.int .i64 v)=ay r {d with fF:=v}:=by kernel_rfl
theorem YD(r:aC)(d:Entry)(v:Int):(ay r d).setIfInBounds 10 (.int .i64 v)=ay r {d with fG:=v}:=by kernel_rfl
theorem YE(r:aC)(d:Entry)(v:Int):(ay r d).setIfInBounds 11 (.int .i64 v)=ay r {d with fails:=v}:=by kernel_rfl
theorem YF(r:aC)(d:Entry)(v:Int):(ay r d).setIfInBounds 12 (.int .i64 v)=ay r {d with eP:=v}:=by kernel_rfl
theorem YG(r:aC)(d:Entry)(v:Int):(ay r d).setIfInBounds 13 (.int .i64 v)=ay r {d with gq:=v}:=by kernel_rfl
theorem YH(r:aC)(d:Entry):mF (ay r d) 0 2=some (aJ r.parts d.name):=by kernel_rfl
attribute [go_sem] OL Yh Yi Yj Yk Yl Ym Yn Yo Yp Yq Yr Yt Yu Yv Yw Yx Yy Yz YA YB YC YD YE YF YG YH
def bZ(p:aO):Array Value:=#[.string p.name,.int .i64 p.length,.int .i64 p.classes,.int .i64 p.distinct,.int .i64 p.history,.int .i64 p.gZ,.int .i64 p.dU,.int .i64 p.fails,.int .i64 p.window,.int .i64 p.lock]
theorem YI(p:aO):(bZ p).size=10:=by simp[bZ]
theorem YJ(p:aO):dG (bZ p)=true:=by simp[dG,bZ,Value.oneCell']
theorem YK(p:aO)(h:0<(bZ p).size):(bZ p)[0]'h=.string p.name:=by simp[bZ]
theorem YL(p:aO)(h:1<(bZ p).size):(bZ p)[1]'h=.int .i64 p.length:=by simp[bZ]
theorem YM(p:aO)(h:2<(bZ p).size):(bZ p)[2]'h=.int .i64 p.classes:=by simp[bZ]
theorem YN(p:aO)(h:3<(bZ p).size):(bZ p)[3]'h=.int .i64 p.distinct:=by simp[bZ]
theorem YO(p:aO)(h:4<(bZ p).size):(bZ p)[4]'h=.int .i64 p.history:=by simp[bZ]
theorem YP(p:aO)(h:5<(bZ p).size):(bZ p)[5]'h=.int .i64 p.gZ:=by simp[bZ]
theorem YQ(p:aO)(h:6<(bZ p).size):(bZ p)[6]'h=.int .i64 p.dU:=by simp[bZ]
theorem YR(p:aO)(h:7<(bZ p).size):(bZ p)[7]'h=.int .i64 p.fails:=by simp[bZ]
theorem YS(p:aO)(h:8<(bZ p).size):(bZ p)[8]'h=.int .i64 p.window:=by simp[bZ]
theorem YT(p:aO)(h:9<(bZ p).size):(bZ p)[9]'h=.int .i64 p.lock:=by simp[bZ]
attribute [go_sem] YI YJ YK YL YM YN YO YP YQ YR YS YT
def jv(r:aC)(d:Entry)(p:aO):Array Value:=#[.slice r.parts.a d.name.parts.length r.parts.cap,.string d.name.aQ,.slice r.aliases.a d.aliases.length r.aliases.cap,.int .u32 d.attrs,.int .i64 d.dF,.slice r.keys.a d.keys.length r.keys.cap,.string d.dn,.int .i64 d.fQ,.int .i64 d.fU,.int .i64 d.fF,.int .i64 d.fG,.int .i64 d.fails,.int .i64 d.eP,.int .i64 d.gq,.slice r.targets.a d.targets.length r.targets.cap,.slice r.aP.a d.aP.length r.aP.cap,.slice r.history.a d.history.length r.history.cap,.string p.name,.int .i64 p.length,.int .i64 p.classes,.int .i64 p.distinct,.int .i64 p.history,.int .i64 p.gZ,.int .i64 p.dU,.int .i64 p.fails,.int .i64 p.window,.int .i64 p.lock]
theorem YU(r:aC)(d:Entry)(p:aO)(v:Int):(jv r d p).setIfInBounds 4 (.int .i64 v)=jv r {d with dF:=v} p:=by kernel_rfl
theorem YV(r:aC)(d:Entry)(p:aO)(v:Int):(jv r d p).setIfInBounds 7 (.int .i64 v)=jv r {d with fQ:=v} p:=by kernel_rfl
theorem YW(r:aC)(d:Entry)(p:aO)(v:Int):(jv r d p).setIfInBounds 8 (.int .i64 v)=jv r {d with fU:=v} p:=by kernel_rfl
theorem YX(r:aC)(d:Entry)(p:aO)(v:Int):(jv r d p).setIfInBounds 9 (.int .i64 v)=jv r {d with fF:=v} p:=by kernel_rfl
theorem YY(r:aC)(d:Entry)(p:aO)(v:Int):(jv r d p).setIfInBounds 10 (.int .i64 v)=jv r {d with fG:=v} p:=by kernel_rfl
theorem YZ(r:aC)(d:Entry)(p:aO)(v:Int):(jv r d p).setIfInBounds 11 (.int .i64 v)=jv r {d with fails:=v} p:=by kernel_rfl
theorem Y0(r:aC)(d:Entry)(p:aO)(v:Int):(jv r d p).setIfInBounds 12 (.int .i64 v)=jv r {d with eP:=v} p:=by kernel_rfl
theorem Y1(r:aC)(d:Entry)(p:aO)(v:Int):(jv r d p).setIfInBounds 13 (.int .i64 v)=jv r {d with gq:=v} p:=by kernel_rfl
theorem Y2(r:aC)(d:Entry)(p:aO):mF (jv r d p) 0 17=some (ay r d):=by kernel_rfl
theorem Y3(r:aC)(d:Entry)(p:aO):mF (jv r d p) 17 10=some (bZ p):=by kernel_rfl
theorem Y4(r:aC)(d:Entry)(p:aO):mF (jv r d p) 0 2=some (aJ r.parts d.name):=by kernel_rfl
theorem Y5(r:aC)(d:Entry)(p:aO):(jv r d p).extract 0 17=ay r d:=by kernel_rfl
theorem Y6(r:aC)(d:Entry)(p:aO):(jv r d p).extract 17 27=bZ p:=by kernel_rfl
attribute [go_sem] YU YV YW YX YY YZ Y0 Y1 Y2 Y3 Y4 Y5 Y6
end Go.WW
