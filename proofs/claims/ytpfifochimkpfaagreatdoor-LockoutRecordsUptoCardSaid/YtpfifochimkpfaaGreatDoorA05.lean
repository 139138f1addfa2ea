/- A part of the proof. -/
import Derived.Test.YtpfifochimkpfaaGreatDoorA04
import Derived.OwnWalk
import Derived.Laws.BytesString
import Derived.RangeFuncOwn
import Derived.Test.YtpfifochimkpfaaGreatDoorA03
import Derived.Lib.Strings
import Derived.Lib.Slices
import Derived.Lib.Walk
import Derived.Lib.Bytealg
import Derived.RangeFuncNested
import Derived.RangeFuncBound
import Derived.RangeFuncCalls
import Derived.RangeFuncLeaves
import Derived.Shelf.Abstract
import Derived.Shelf.RegionOpen
import Derived.OwnWalkIn
import Derived.TacticsInMore
import Derived.LoopNIn
import Derived.LoopIn
set_option maxRecDepth 100000
set_option maxHeartbeats 2000000
namespace Go.WW
open Go.RowKit
theorem dH{w:World}{b o:Nat}{c:Array Value}{t:TypeId}(v:Value)(h:w.heap[b]?=some (.cells c t)):(w.setCell ⟨b,o,none⟩ v).heap[b]?=some (.cells (c.setIfInBounds o v) t):=by
 simp[World.setCell,Array.getElem?_modify,h]
theorem Qo{b:Nat}{t:TypeId}:∀(l:List Value) (o:Nat) (c:Array Value) (w:World),w.heap[b]?=some (.cells c t)→
  (w.setCells b o l).heap[b]?=some (.cells ((l.zipIdx o).foldl (fun c x=>c.setIfInBounds x.2 x.1) c) t)
 | [],_,_,_,h=>h
 |v::l,o,c,w,h=>by
  rw[World.setCells]
  exact Qo l (o+1) _ _ (dH v h)
theorem Qp{b k:Nat}(hk:k≠b):∀(l:List Value) (o:Nat) (w:World),(w.setCells b o l).heap[k]?=w.heap[k]?
 | [],_,_=>rfl
 |v::l,o,w=>by
  rw[World.setCells,Qp hk l (o+1)]
  exact Below.heap_setCell w _ v k hk
theorem Cc{b B:Nat}(hB:B≤b):∀(l:List Value) (o:Nat) (w:World),Below B w (w.setCells b o l)
 | [],_,w=>Below.refl _ _
 |v::l,o,w=>by
  rw[World.setCells]
  exact((Below.refl B w).setCell (p:=⟨b,o,none⟩) hB v).trans (Cc hB l (o+1) _)
theorem setCells_size{b:Nat}:∀(l:List Value) (o:Nat) (w:World),(w.setCells b o l).heap.size=w.heap.size
 | [],_,w=>rfl
 |v::l,o,w=>by
  rw[World.setCells,setCells_size l (o+1)]
  simp[World.setCell]
theorem Qq(post:List Value):∀(pre l m:List Value),l.length=m.length→
  ((m.zipIdx pre.length).foldl (fun(c:Array Value) x=>c.setIfInBounds x.2 x.1) (pre++l++post).toArray)=(pre++m++post).toArray
 |_,[],[],_=>by simp
 |pre,x::l,y::m,h=>by
  have ih:=Qq post (pre++[y]) l m (by simpa using h)
  simp only[List.zipIdx_cons,List.foldl_cons]
  have e:(pre++x::l++post).toArray.setIfInBounds pre.length y=((pre++[y])++l++post).toArray:=by simp
  rw[e]
  simpa using ih
def splice(c:Array Value)(o:Nat)(cs:Array Value):Array Value:=(c.toList.take o++cs.toList++c.toList.drop (o+cs.size)).toArray
theorem kR{c cs:Array Value}(h:c.size=cs.size):splice c 0 cs=cs:=by
 have:c.toList.drop (0+cs.size)=[]:=by rw[List.drop_eq_nil_iff];simp[h]
 unfold splice;rw[this];simp
theorem Fg{c:Array Value}{o:Nat}{cs:Array Value}(h:o+cs.size≤c.size):(splice c o cs).size=c.size:=by simp[splice];omega
theorem jk{w:World}{b o:Nat}{c cs:Array Value}{t:TypeId}(h:w.heap[b]?=some (.cells c t))(ho:o+cs.size≤c.size):(putRow w b o cs).heap[b]?=some (.cells (splice c o cs) t):=by
 unfold putRow
 rw[Qo cs.toList o c w h]
 have:=Qq (c.toList.drop (o+cs.size)) (c.toList.take o) ((c.toList.drop o).take cs.size) cs.toList (by simp;omega)
 have e:c.toList.take o++(c.toList.drop o).take cs.size++c.toList.drop (o+cs.size)=c.toList:=by
  rw[List.append_assoc,←List.drop_drop,List.take_append_drop,List.take_append_drop]
 have ho':(c.toList.take o).length=o:=by simp;omega
 rw[e,ho']at this
 rw[show c.toList.toArray=c by simp]at this
 rw[this]
 rfl
theorem gU{w:World}{b o k:Nat}{cs:Array Value}(h:k≠b):(putRow w b o cs).heap[k]?=w.heap[k]?:=Qp h _ _ _
theorem gV(w:World)(b o:Nat)(cs:Array Value):(putRow w b o cs).heap.size=w.heap.size:=setCells_size _ _ _
theorem Below.putRow{B b o:Nat}{W w:World}{cs:Array Value}(h:Below B W w)(hB:B≤b):Below B W (Go.WW.putRow w b o cs):=h.trans (Cc hB _ _ _)
theorem abd{w:World}{b o n:Nat}(h:aX w b o n=true):∃c t,w.heap[b]?=some (.cells c t)∧o+n≤c.size:=by
 unfold aX at h
 split at h
 ·rename_i c t f hb
  simp only[Bool.and_eq_true,decide_eq_true_eq]at h
  obtain⟨h1,rfl⟩:=h
  exact⟨c,t,hb,h1⟩
 ·cases h
theorem gJ{w:World}{b n:Nat}{cs:Array Value}(hn:cs.size=n)(hc:aX w b 0 n=true):row? (putRow w b 0 cs) b 0 n=some cs:=by
 subst hn
 obtain⟨c,t,hb,hs⟩:=abd hc
 unfold row?
 rw[jk hb hs]
 have hs':0+cs.size≤(splice c 0 cs).size:=by rw[Fg hs];exact hs
 show(if 0+cs.size≤(splice c 0 cs).size then _ else _)=_
 rw[if_pos hs']
 simp[splice]
theorem abe{w:World}{b j:Nat}{cs:Array Value}(hc:aX w b 0 cs.size=true)(hj:j<cs.size):(putRow w b 0 cs).cell? ⟨b,j,none⟩=cs[j]?:=by
 have:=ji (gJ rfl hc) j hj
 simpa using this
theorem Qr{w:World}{b o k o' n:Nat}{cs:Array Value}(h:k≠b):row? (putRow w b o cs) k o' n=row? w k o' n:=fG (gU h) o' n
theorem cell?_putRow_other{w:World}{b o k o':Nat}{cs:Array Value}(h:k≠b):(putRow w b o cs).cell? ⟨k,o',none⟩=w.cell? ⟨k,o',none⟩:=World.cell?_of_block (a:=⟨k,o',none⟩) (gU h)
theorem JI{w:World}{b o k o' n:Nat}{cs:Array Value}(h:k≠b):aX (putRow w b o cs) k o' n=aX w k o' n:=EN (gU h) o' n
theorem abf{P:Program}{w:World}{b o:Nat}{cs:Array Value}(hc:aX w b o cs.size=true)(h1:dL cs=true):(storeCells ⟨b,o,none⟩ cs.toList).run P w=.ok () (putRow w b o cs):=by
 have ht:=PG hc
 have h0:=run_storeCells_cells (P:=P) b o cs.toList 0 w (fun j hj=>(ht j (by simpa using hj)).1) (fun j hj=>(ht j (by simpa using hj)).2) (fun u hu=>by unfold dL at h1;rw[Array.all_eq_true']at h1;exact h1 u (by simpa using hu))
 unfold putRow
 simpa using h0
theorem iC{w:World}{b o n:Nat}{c:Array Value}{t:TypeId}(h:w.heap[b]?=some (.cells c t))(hn:o+n≤c.size):aX w b o n=true:=by unfold aX;rw[h];simp[hn]
theorem dI{w:World}{b o n:Nat}{c:Array Value}{t:TypeId}(h:w.heap[b]?=some (.cells c t)):row? w b o n=gy c o n:=by unfold row? gy;rw[h]
theorem fD{W w1:World}(hb:Below W.heap.size W w1):∀b o n,b<W.heap.size→aX w1 b o n=aX W b o n:=fun b o n h=>EN (hb.block b h) o n
theorem Qu(w:World)(b o n:Nat):aX w.drew b o n=aX w b o n:=rfl
attribute [go_sem] gJ abe Qr cell?_putRow_other JI abf Qu
theorem foldl_push(l:List UInt8):∀(acc:List UInt8),((l.map fun c=>((c.toNat:Nat):Int)).foldl (fun(r:ByteArray) n=>r.push (UInt8.ofNat n.toNat)) ⟨acc.toArray⟩)=⟨(acc++l).toArray⟩:=by
 induction l with
 |nil=>intro acc;simp
 |cons c l ih=>
  intro acc
  rw[List.map_cons,List.foldl_cons]
  have e:(ByteArray.mk acc.toArray).push (UInt8.ofNat ((c.toNat:Nat):Int).toNat)=⟨(acc++[c]).toArray⟩:=by
   simp[ByteArray.push]
  rw[e,ih]
  simp
theorem JJ{P:Program}(w:World)(src dst e:TypeId)(hs:P.underlying src=some (.slice e))(he:P.underlying e=some (.int .u8))(hd:P.underlying dst=some .string)(b o cap:Nat)(l:List UInt8)
  (h:∀i (hi:i<l.length),w.cell? ⟨b,o+i,none⟩=some (.int .u8 l[i].toNat)):(convert src dst (.slice (some ⟨b,o,none⟩) l.length cap)).run P w=.ok (.string ⟨l.toArray⟩) w:=by
 rw[run_convert_bytes_string w src dst e _ _ _ hs he hd]
 have hl:(loadCells ⟨b,o,none⟩ l.length).run P w=.ok ((l.map fun c=>((c.toNat:Nat):Int)).map (Value.int .u8)).toArray w:=by
  have:=run_loadCells_list (P:=P) w ⟨b,o,none⟩ ((l.map fun c=>((c.toNat:Nat):Int)).map (Value.int .u8)) (fun j v hv=>by
   have hj:j<l.length:=by have:=(List.getElem?_eq_some_iff.1 hv).1;simpa using this
   have hadd:(⟨b,o,none⟩:Addr).add j=⟨b,o+j,none⟩:=by unfold Addr.add;split<;>simp_all
   rw[hadd,h j hj]
   simp[hj]at hv
   rw[←hv])
  simpa using this
 rw[run_bytesToString w _ _ _ _ hl]
 have e0:ByteArray.empty=⟨([]:List UInt8).toArray⟩:=rfl
 rw[e0,foldl_push,List.nil_append]
theorem gW{P:Program}{ops:Array Oper}{rest:List Oper}{o:Oper}{a:Act}{w:World}{Q:Exit→Act→World→Prop}(hgd:o.guard=none)(x y:Operand)(t:TypeId)(ho:o.op=.call {callee:=.builtin .append,args:=#[x,y],argTypes:=#[t,t]})
  {e:TypeId} {k bytes:Nat} (he:fV P t e k bytes) {base:Nat} {s:Sl} {n:Nat} {rows:List (Array Value)} (hx:a.eval x=.slice s.a n s.cap) (hn:n=rows.length) (h:Own w base e k s rows) {A:Option Addr} {news:List (Array Value)} {m c:Nat}
  (hy:a.eval y=.slice A m c) (hm:m=news.length) (hs:cO w k A news) (hlen:(rows.length+news.length)*(bytes+1)≤140737488355328) (hbase:base≤w.heap.size)
  (hK:∀(s':Sl) w',Own w' base e k s' (rows++news)→w.grownBy w' s.blk→(s'.blk=s.blk∨s'.blk=some w.heap.size)→wpList P ops Q rest (a.put o.dst (.slice s'.a (n+m) s'.cap)) w'):wpList P ops Q (o::rest) a w:=by
 subst hn hm
 exact aba hgd x y t ho he hx h hy rfl hs hlen hbase hK
theorem bH.src{w:World}{k n:Nat}{a:Option Addr}{R:Nat→Array Value→Prop}(h:bH w k a n R)(hR:∀i cs,R i cs→cs.size=k∧dL cs=true) :
  ∃rows,rows.length=n∧cO w k a rows∧∀i (hi:i<rows.length),R i rows[i]:=by
 rcases Nat.eq_zero_or_pos n with h0|h0
 ·subst h0;exact⟨[],rfl,⟨by simp,by simp,fun i hi=>by simp at hi⟩,fun i hi=>by simp at hi⟩
 ·obtain⟨b,o,_,ha,_⟩:=h.2 0 h0
  have key:∀i,i<n→∃cs,row? w b (o+i*k) k=some cs∧R i cs:=fun i hi=>by
   obtain⟨b',o',cs,ha',hr,hc⟩:=h.2 i hi
   rw[ha]at ha';cases ha'
   exact⟨cs,hr,hc⟩
  have hg:∀i (hi:i<((List.range n).map fun i=>(row? w b (o+i*k) k).getD #[]).length),∃cs,((List.range n).map fun i=>(row? w b (o+i*k) k).getD #[])[i]=cs∧row? w b (o+i*k) k=some cs∧R i cs:=fun i hi=>by
   have hi':i<n:=by simpa using hi
   obtain⟨cs,h1,h2⟩:=key i hi'
   exact⟨cs,by simp[h1],h1,h2⟩
  refine⟨(List.range n).map fun i=>(row? w b (o+i*k) k).getD #[],by simp,⟨fun r hr=>?_,fun r hr=>?_,fun i hi=>?_⟩,fun i hi=>?_⟩
  ·obtain⟨i,hi,rfl⟩:=List.mem_iff_getElem.1 hr
   obtain⟨cs,e,_,h2⟩:=hg i hi
   rw[e];exact(hR i cs h2).1
  ·obtain⟨i,hi,rfl⟩:=List.mem_iff_getElem.1 hr
   obtain⟨cs,e,_,h2⟩:=hg i hi
   rw[e];exact(hR i cs h2).2
  ·obtain⟨cs,e,h1,_⟩:=hg i hi
   exact⟨b,o,ha,by rw[e];exact h1⟩
  ·obtain⟨cs,e,_,h2⟩:=hg i hi
   rw[e];exact h2
theorem bH.iM{w:World}{base k n:Nat}{e:TypeId}{s:Sl}{rows:List (Array Value)}{R:Nat→Array Value→Prop}(h:Own w base e k s rows)(hl:rows.length=n)(hn:n≤lim)(hR:∀i (hi:i<rows.length),R i rows[i]):bH w k s.a n R:=by
 subst hl
 refine⟨hn,fun i hi=>?_⟩
 obtain⟨g,ha,_,hrow⟩:=h.row i hi
 exact⟨g,0,rows[i],ha,hrow,hR i hi⟩
theorem abg{w:World}{b o:Nat}{v:Value}(h:w.cell? ⟨b,o,none⟩=some v):row? w b o 1=some #[v]:=by
 have hlt:=World.block_lt_of_cell? w _ h
 unfold row?
 cases hb:w.heap[b]? with
 |none=>exfalso;simp[World.cell?,hb]at h
 |some ob=>
  cases ob with
  |cells c t f=>
   rw[cell_of_row w b o c t f hb]at h
   have ho:=(Array.getElem?_eq_some_iff.1 h).1
   show(if o+1≤c.size then _ else _)=_
   rw[if_pos (by omega)]
   congr 1
   apply Array.ext_getElem?
   intro j
   rw[Array.getElem?_extract]
   by_cases hj:j=0
   ·subst hj;rw[if_pos (by omega)];simpa using h
   ·rw[if_neg (by omega)];simp;omega
  |_=>exfalso;simp[World.cell?,hb]at h
theorem dO.src{w:World}{n:Nat}{a:Option Addr}{R:Nat→Value→Prop}(h:dO w a n R)(hR:∀i v,R i v→v.oneCell'=true) :
  ∃rows,rows.length=n∧cO w 1 a rows∧∀i (hi:i<rows.length),∃v,rows[i]=#[v]∧R i v:=by
 have h':bH w 1 a n (fun i cs=>∃v,cs=#[v]∧R i v):=⟨h.1,fun i hi=>by
  obtain⟨b,o,v,ha,hc,hr⟩:=h.2 i hi
  exact⟨b,o,#[v],ha,by rw[Nat.mul_one];exact abg hc,v,rfl,hr⟩⟩
 obtain⟨rows,h1,h2,h3⟩:=h'.src (fun i cs ⟨v,e,hr⟩=>by subst e;exact⟨rfl,by simp[dL,hR i v hr]⟩)
 exact⟨rows,h1,h2,h3⟩
theorem dO.iM{w:World}{base n:Nat}{e:TypeId}{s:Sl}{rows:List (Array Value)}{R:Nat→Value→Prop}(h:Own w base e 1 s rows)(hl:rows.length=n)(hn:n≤lim)(hR:∀i (hi:i<rows.length),∃v,rows[i]=#[v]∧R i v):dO w s.a n R:=by
 subst hl
 refine⟨hn,fun i hi=>?_⟩
 obtain⟨g,ha,_,hrow⟩:=h.row i hi
 obtain⟨v,e,hr⟩:=hR i hi
 refine⟨g,0,v,ha,?_,hr⟩
 have:=ji hrow 0 (by omega)
 rw[e,Nat.mul_one]at this
 simpa using this
theorem abh{P:Program}{ops:Array Oper}{rest:List Oper}{o:Oper}{a:Act}{w:World}{Q:Exit→Act→World→Prop}(hw:Region.wanted o (yielded ops a.tmps)=true)(x y:Operand)(t:TypeId)(ho:o.op=.call {callee:=.builtin .append,args:=#[x,y],argTypes:=#[t,t]})
  {e:TypeId} {k bytes:Nat} (he:fV P t e k bytes) {base:Nat} {s:Sl} {n:Nat} {rows:List (Array Value)} (hx:a.eval x=.slice s.a n s.cap) (hn:n=rows.length) (h:Own w base e k s rows) {A:Option Addr} {news:List (Array Value)} {m c:Nat}
  (hy:a.eval y=.slice A m c) (hm:m=news.length) (hs:cO w k A news) (hlen:(rows.length+news.length)*(bytes+1)≤140737488355328) (hbase:base≤w.heap.size)
  (hK:∀(s':Sl) w',Own w' base e k s' (rows++news)→w.grownBy w' s.blk→(s'.blk=s.blk∨s'.blk=some w.heap.size)→wpList P ops Q rest (a.put o.dst (.slice s'.a (n+m) s'.cap)) w'):wpList P ops Q (o::rest) a w:=by
 subst hn hm
 refine wpList_step fun K hK'=>?_
 rw[if_pos hw]
 exact JH x y t ho he hx h hy rfl hs hlen hbase fun s' w' h2 h3 h4=>hK' _ _ (hK s' w' h2 h3 h4)
theorem Own.one(w:World)(cs:Array Value)(t:TypeId)(k:Nat)(hs:cs.size=k):Own (w.alloc (.cells cs t)) w.heap.size t k ⟨some ⟨w.heap.size,0,none⟩,1⟩ [cs]:=by
 refine⟨⟨by simp[flat,hs],.inr ⟨w.heap.size,1,cs,rfl,Nat.le_refl _,World.alloc_heap_new w _,Nat.le_refl _,by unfold maxLen;omega,by simp[hs],?_⟩⟩,by simpa using hs⟩
 simp only[flat,List.flatMap_cons,List.flatMap_nil,List.append_nil,List.length_singleton,Nat.one_mul]
 exact List.take_of_length_le (by simp[hs])
theorem Fh{w:World}{l:List aH}(i:Nat)(cs:Array Value)(h:∃p s,l[i]?=some p∧cs=az s p∧bK w s p):cs.size=2∧dL cs=true:=by
 obtain⟨p,s,_,rfl,_⟩:=h;exact⟨ER s p,PN s p⟩
abbrev EE:=aK×Entry
def cZ(x:EE):Array Value:=ae x.1 x.2
def gz(w:World)(a:Option Addr)(X:List EE):Prop:=bH w 17 a X.length fun i cs=>∃x,X[i]?=some x∧cs=cZ x
theorem gz.later{w w':World}(h:Below w.heap.size w w'){a:Option Addr}{X:List EE}(x:gz w a X):gz w' a X:=bH.later h (fun _ _ y=>y) x
theorem gz.at{w:World}{b o:Nat}{X:List EE}(x:gz w (some ⟨b,o,none⟩) X)(i:Nat)(h:i<X.length):row? w b (o+i*17) 17=some (ae X[i].1 X[i].2):=by
 obtain⟨b',o',cs,ha,hr,y,hy,rfl⟩:=x.2 i h
 cases ha
 rw[List.getElem?_eq_getElem h]at hy;cases hy
 exact hr
theorem gz.dS{w:World}{a:Option Addr}{X:List EE}(x:gz w a X)(h:∀y∈X,aS w y.1 y.2):lM w a (X.map (·.2)):=by
 refine⟨by simpa using x.1,fun i hi=>?_⟩
 have hi':i<X.length:=by simpa using hi
 obtain⟨b,o,cs,ha,hr,y,hy,rfl⟩:=x.2 i hi'
 exact⟨b,o,_,ha,hr,y.2,y.1,by simp[hy],rfl,h y (List.mem_of_getElem? hy)⟩
theorem gz.iM{w:World}{base:Nat}{e:TypeId}{s:Sl}{X:List EE}(h:Own w base e 17 s (X.map cZ))(hn:X.length≤lim):gz w s.a X:=
 bH.iM h (by simp) hn (fun i hi=>by simp at hi;exact⟨X[i],List.getElem?_eq_getElem hi,by simp⟩)
theorem tq{W w w':World}{E:TypeId}{k:Nat}{s:Sl}{rows:List (Array Value)}(h:Own w W.heap.size E k s rows)(hb:Below W.heap.size W w)(hg:w.grownBy w' s.blk):Below W.heap.size W w':=hb.grown hg hb.size (fun _ e=>(h.base e).1)
theorem abj{α:Type}(X:List α)(i k:Nat)(h:k<X.length):(X.take (k+1)).eraseIdx i=if k=i then(X.take k).eraseIdx i else(X.take k).eraseIdx i++[X[k]]:=by
 rw[List.take_succ_eq_append_getElem h]
 have hl:(X.take k).length=k:=by simp;omega
 rcases Nat.lt_trichotomy i k with h1|h1|h1
 ·rw[if_neg (by omega),List.eraseIdx_append_of_lt_length (by omega)]
 ·subst h1
  have e:(X.take i).eraseIdx i=X.take i:=List.eraseIdx_of_length_le (by omega)
  rw[if_pos rfl,List.eraseIdx_append_of_length_le (by omega),e,hl,Nat.sub_self];simp
 ·rw[if_neg (by omega),List.eraseIdx_of_length_le (by simp;omega),List.eraseIdx_of_length_le (by omega)]
def JK(X:List EE)(w:World)(e:Ending)(w':World):Prop:=∃s:Sl,e=.returned (.slice s.a X.length s.cap)∧Below w.heap.size w w'∧bu w' (fresh w.heap.size w') (fun y=>gz y s.a X)
end Go.WW
namespace Go.Proofs.YtpfifochimkpfaaGreatDoor
open Go.RowKit Go.WW
def Ap(T:TypeId)(n:Nat)(parts:Array (Nat×Value)):Sem Next:=do pure (.value (←Instr.buildSlice T n parts))
theorem abk(ρ:Operand→Value)(dst:Option Tmp)(x:Operand)(ty:TypeId)(pos:String)(after:Array Edge)(guard:Option (Nat×Bool)):execOp ρ {dst,op:=.buildSlice 23 1 #[(0,x)],type:=ty,pos,after,guard}=Ap 23 1 #[(0,ρ x)]:=by simp[execOp,Ap]
theorem abl(w:World)(r:aK)(d:Entry):(Ap 23 1 #[(0,.agg (ae r d))]).run Tryz.prog w=.ok (.value (.slice (some ⟨w.heap.size,0,none⟩) 1 1)) (w.alloc (.cells (ae r d) 44)):=by kernel_rfl
theorem abm(ρ:Operand→Value)(dst:Option Tmp)(x:Operand)(ty:TypeId)(pos:String)(after:Array Edge)(guard:Option (Nat×Bool)):execOp ρ {dst,op:=.buildSlice 22 1 #[(0,x)],type:=ty,pos,after,guard}=Ap 22 1 #[(0,ρ x)]:=by simp[execOp,Ap]
theorem abn(w:World)(p:ah):(Ap 22 1 #[(0,.agg (ak p))]).run Tryz.prog w=.ok (.value (.slice (some ⟨w.heap.size,0,none⟩) 1 1)) (w.alloc (.cells (ak p) 52)):=by kernel_rfl
attribute [go_sem] abl abn
attribute [go_sem ↓] abk abm
theorem uZ:fV Tryz.prog 23 44 17 248:=fV.of Tryz.underlying23 (by kernel_rfl)
theorem abo(a:Option Addr)(cap:Nat)(X:List EE)(j:Nat)(w:World)(hX:gz w a X)(hj:j<X.length):Calls Tryz.prog 69 #[.slice a X.length cap,.int .i64 j] w (JK (X.eraseIdx j) w):=by
 have hn:X.length≤4294967000:=hX.1
 rcases bH.addr hX with h0|⟨b,o,rfl,hb⟩
 ·omega
 go_enter Tryz.func69,Tryz.ntmps69
 go_wp2_with fail
 go_loopw [5,6] (fun ov i wr=>∃(k m:Nat) (so:Sl) (rows:List (Array Value)),k≤X.length∧m≤k∧i=.int .i64 k∧ov=.slice so.a m so.cap∧Hid (rows.length=m)∧Hid (rows=((X.take k).eraseIdx j).map cZ)∧Below w.heap.size w wr∧Go.WW.Own wr w.heap.size 44 17 so rows) (fun _ i _=>X.length-(intOf i).toNat)
 case atStart=>exact⟨0,0,⟨none,0⟩,[],Nat.zero_le _,Nat.le_refl _,rfl,rfl,rfl,by simp[Hid],Below.refl _ _,Go.WW.Own.nil _ _ _ _⟩
 case round=>
  obtain⟨k,m,so,rows,hk,hm,rfl,rfl,hlr,hrw,hbr,hO⟩:=hrel
  by_cases hlt:k<X.length
  ·have hrow:=hX.at k hlt
   obtain⟨hcc,bf,hrr⟩:=aQ hbr
   have hki:(k:Int)<(X.length:Int):=by omega
   have hte:=abj X j k hlt
   by_cases hkj:k=j
   ·have abp:((k:Int) != (j:Int))=false:=by simp[hkj]
    rw[if_pos hkj]at hte
    have HT:=Lib.hid (show rows=((X.take (k+1)).eraseIdx j).map cZ by rw[hte];exact hrw.out)
    clear hte hkj
    go_wp2_with fail
    go_roundw
    case rel=>exact⟨k+1,m,so,rows,by omega,by omega,by go_num,rfl,hlr.out,HT.out,hbr,hO⟩
    case measure=>simp[intOf];omega
   ·have abp:((k:Int) != (j:Int))=true:=by simp;omega
    rw[if_neg hkj]at hte
    have HT:=Lib.hid (show rows++[cZ X[k]]=((X.take (k+1)).eraseIdx j).map cZ by rw[hte,hrw.out];simp)
    clear hte hkj
    generalize hxk:X[k]=xk at *
    have hown:Go.WW.Own (wr.alloc (.cells (ae xk.1 xk.2) 44)) w.heap.size 44 17 so rows:=hO.kept fun g hg=>Below.heap_alloc _ _ _ (hO.base hg).2
    go_wp2_with (at_builtin;refine gW rfl (.tmp 16) (.tmp 21) _ rfl uZ (n:=m) rfl hlr.out.symm hown rfl rfl (cO.new _ (ae xk.1 xk.2) _ _ (by simp[go_sem]) (by simp[go_sem])) (by have:=hlr.out;rw[this];simp;omega) (by have h9:=hbr.size;simp;omega) ?_;intro s3 w3 hown3 hg3 iD)
    have hb3:=tq hown (ay hbr _) hg3
    have HL:=Lib.hid (show(rows++[cZ xk]).length=m+1 by have:=hlr.out;simp[this])
    clear hown hg3 iD hO hlr hcc bf hrr
    go_wp2_with fail
    go_roundw
    case rel=>exact⟨k+1,m+1,s3,_,by omega,by omega,by go_num,rfl,HL.out,HT.out,hb3,hown3⟩
    case measure=>simp[intOf];omega
  ·obtain rfl:k=X.length:=by omega
   have h1:=hrw.out
   rw[List.take_of_length_le (Nat.le_refl _)]at h1
   have h2:=hlr.out
   subst h1
   have HM:=Lib.hid (show m=(X.eraseIdx j).length by rw[←h2];simp)
   go_wp2_with fail
   go_ret
   exact⟨so,by rw[←HM.out];rfl,hbr,fun y hy=>gz.iM (hO.kept fun _ hg=>hy _ (hO.base hg)) (by have:=List.length_eraseIdx_le X j;have:=hX.1;omega)⟩
end Go.Proofs.YtpfifochimkpfaaGreatDoor
namespace Go.WW
open Go.RowKit
abbrev eH(x:EE):aH:=x.2.name
def nC(e:EE)(X R:List EE)(k:Nat)(dn:Bool):Prop:=kH fB eH e X=R++(if dn then X.drop k else kH fB eH e (X.drop k))
theorem abq(e:EE)(X:List EE):nC e X [] 0 false:=rfl
theorem abr{e:EE}{X R:List EE}{k:Nat}(h:nC e X R k false)(hk:k<X.length)(hc:fB (eH e) (eH X[k])<0):nC e X (R++[e]++[X[k]]) (k+1) true:=by
 unfold nC at *
 rw[h,List.drop_eq_getElem_cons hk]
 simp[kH,hc]
theorem abt{e:EE}{X R:List EE}{k:Nat}(h:nC e X R k false)(hk:k<X.length)(hc:¬fB (eH e) (eH X[k])<0):nC e X (R++[X[k]]) (k+1) false:=by
 unfold nC at *
 rw[h,List.drop_eq_getElem_cons hk]
 simp[kH,hc]
theorem abu{e:EE}{X R:List EE}{k:Nat}(h:nC e X R k true)(hk:k<X.length):nC e X (R++[X[k]]) (k+1) true:=by
 unfold nC at *
 rw[h,List.drop_eq_getElem_cons hk]
 simp
theorem abv{e:EE}{X R:List EE}{k:Nat}(h:nC e X R k true)(hk:X.length≤k):kH fB eH e X=R:=by
 unfold nC at h;rw[h,List.drop_of_length_le hk];simp
theorem abw{e:EE}{X R:List EE}{k:Nat}(h:nC e X R k false)(hk:X.length≤k):kH fB eH e X=R++[e]:=by
 unfold nC at h;rw[h,List.drop_of_length_le hk];rfl
theorem abx(e:EE)(X:List EE):(kH fB eH e X).length=X.length+1:=by rw[(wR eH e X).length_eq];simp
end Go.WW
namespace Go.Proofs.YtpfifochimkpfaaGreatDoor
open Go.RowKit Go.WW
theorem aby(a:Option Addr)(cap:Nat)(r:aK)(d:Entry)(w:World):Calls Tryz.prog 70 #[.slice a 0 cap,.agg (ae r d)] w (JK [(r,d)] w):=by
 have hB:Below w.heap.size w (w.alloc (.cells (ae r d) 44)):=(Below.refl _ _).alloc (Nat.le_refl _) _
 have hbox:(w.alloc (.cells (ae r d) 44)).heap[w.heap.size]?=some (.cells (ae r d) 44):=World.alloc_heap_new _ _
 have hW:w.heap.size<(w.alloc (.cells (ae r d) 44)).heap.size:=by simp
 have Ce:row? (w.alloc (.cells (ae r d) 44)) w.heap.size 0 17=some (ae r d):=(dI hbox).trans (by kernel_rfl)
 go_enter Tryz.func70,Tryz.ntmps70
 go_wp2_with fail
 generalize (w.alloc (.cells (ae r d) 44))=W at *
 go_loopw [5,6,7] (fun ov dv iv wr=>∃(so:Sl) (m:Nat) (rows:List (Array Value)),iv=.int .i64 0∧dv=.bool false∧ov=.slice so.a m so.cap∧wr=W∧Hid (rows.length=m)∧Hid (rows=[])∧Go.WW.Own wr w.heap.size 44 17 so rows) (fun _ _ _ _=>0)
 case atStart=>exact⟨⟨none,0⟩,0,[],rfl,rfl,rfl,rfl,rfl,rfl,Go.WW.Own.nil _ _ _ _⟩
 case round=>
  obtain⟨so,m,rows,rfl,rfl,rfl,rfl,hlr,hr0,hO⟩:=hrel
  have hown:Go.WW.Own (wr.alloc (.cells (ae r d) 44)) w.heap.size 44 17 so rows:=hO.kept fun g hg=>Below.heap_alloc _ _ _ (hO.base hg).2
  go_wp2_with (at_builtin;refine gW rfl (.tmp 40) (.tmp 42) _ rfl uZ (n:=m) (s:=so) rfl hlr.out.symm hown rfl rfl (cO.new _ (ae r d) _ _ (by simp[go_sem]) (by simp[go_sem])) (by rw[hr0.out];first|decide|simp) (by have h9:=hB.size;simp;omega) ?_;intro s3 w3 hown3 hg3 iD)
  have hb3:=tq hown (ay hB _) hg3
  have HM:=Lib.hid (show m=0 by rw[←hlr.out,hr0.out];rfl)
  have HO:Go.WW.Own w3 w.heap.size 44 17 s3 ([(r,d)].map cZ):=by have:=hown3;rw[hr0.out]at this;exact this
  go_wp2_with fail
  go_ret
  exact⟨s3,by rw[HM.out];rfl,hb3,fun y hy=>gz.iM (X:=[(r,d)]) (HO.kept fun _ hg=>hy _ (HO.base hg)) (by simp[lim])⟩
theorem Qv(a:Option Addr)(cap:Nat)(X:List EE)(r:aK)(d:Entry)(w:World)(hX:gz w a X)(hm:∀x∈X,aS w x.1 x.2)(he:aS w r d)(hn:X.length≤1000000):Calls Tryz.prog 70 #[.slice a X.length cap,.agg (ae r d)] w (JK (kH fB eH (r,d) X) w):=by
 rcases bH.addr hX with h0|⟨b,o,rfl,hb⟩
 ·obtain rfl:X=[]:=List.eq_nil_of_length_eq_zero h0
  exact aby a cap r d w
 have hB:Below w.heap.size w (w.alloc (.cells (ae r d) 44)):=(Below.refl _ _).alloc (Nat.le_refl _) _
 have hbox:(w.alloc (.cells (ae r d) 44)).heap[w.heap.size]?=some (.cells (ae r d) 44):=World.alloc_heap_new _ _
 have hW:(w.alloc (.cells (ae r d) 44)).heap.size=w.heap.size+1:=by simp
 go_enter Tryz.func70,Tryz.ntmps70
 go_wp2_with fail
 generalize (w.alloc (.cells (ae r d) 44))=W at *
 go_loopw [5,6,7] (fun ov dv iv wr=>∃(k m:Nat) (dn:Bool) (so:Sl) (R:List EE),k≤X.length∧m≤k+1∧Hid (dn=false→m≤k)∧iv=.int .i64 k∧dv=.bool dn∧ov=.slice so.a m so.cap∧Hid (R.length=m)∧Hid (nC (r,d) X R k dn)∧Below W.heap.size W wr∧Go.WW.Own wr W.heap.size 44 17 so (R.map cZ)) (fun _ _ iv _=>X.length-(intOf iv).toNat)
 case atStart=>exact⟨0,0,false,⟨none,0⟩,[],Nat.zero_le _,by omega,fun _=>Nat.le_refl _,rfl,rfl,rfl,rfl,abq _ _,Below.refl _ _,Go.WW.Own.nil _ _ _ _⟩
 case round=>
  obtain⟨k,m,dn,so,R,hk,hmk,hdn,rfl,rfl,rfl,hlr,hI,hbr,hO⟩:=hrel
  have hW2:w.heap.size<wr.heap.size:=by have:=hbr.size;omega
  have hbw:b<wr.heap.size:=by omega
  have hbx:wr.heap[w.heap.size]?=some (.cells (ae r d) 44):=(hbr.block _ (by omega)).trans hbox
  have Ce:row? wr w.heap.size 0 17=some (ae r d):=(dI hbx).trans (by kernel_rfl)
  have hx2:row? wr w.heap.size 0 2=some (az r.parts d.name):=uY Ce
  by_cases hlt:k<X.length
  ·have hki:(k:Int)<(X.length:Int):=by omega
   have hrow:row? wr b (o+k*17) 17=some (ae X[k].1 X[k].2):=(fG ((ag hB hbr).block b hb) _ _).trans (hX.at k hlt)
   have hrow0:=hX.at k hlt
   have hrow2:=uY hrow
   have hmk':=hm X[k] (List.getElem_mem hlt)
   have hBr:=ag hB hbr
   cases dn
   ·by_cases hc:fB d.name X[k].2.name<0
    ·have HI:=Lib.hid (abr hI.out hlt hc)
     generalize X[k]=x at *
     go_wp2_with fail
     refine dN (Below.refl _ wr) (by kernel_rfl) (by kernel_rfl) ?_
     repeat (go_big_quiet_step ((go_at_call 130;rename_i xw;exact Calls.iq (Qk _ _ _ _ _ ((he.name.later hBr).later xw.b) ((hmk'.name.later hBr).later xw.b)))))
     refine wpQuiet_nil ?_
     intro w2 hb2
     have am5:row? w2 w.heap.size 0 17=some (ae r d):=(fG (hb2.block _ hW2) _ _).trans Ce
     have hO2:Go.WW.Own (w2.alloc (.cells (ae r d) 44)) W.heap.size 44 17 so (R.map cZ):=hO.kept fun g hg=>by rw[Below.heap_alloc _ _ _ (Nat.lt_of_lt_of_le (hO.base hg).2 hb2.size)];exact hb2.block g (hO.base hg).2
     have hb2':=ag hbr hb2
     have hW3:w.heap.size<w2.heap.size:=by have:=hb2'.size;omega
     go_wp2_with (first
      |(at_builtin;refine gW rfl (.tmp 27) (.tmp 29) _ rfl uZ (n:=m) rfl (by have:=hlr.out;simp[this]) hO2 rfl rfl (cO.new _ (ae r d) _ _ (by simp[go_sem]) (by simp[go_sem])) (by have:=hlr.out;simp[this];omega) (by have h9:=hb2'.size;simp;omega) ?_;intro s3 w3 hown3 hg3 iD;have hb3:=tq hO2 (ay hb2' _) hg3;have hrow3:=(fG ((ag hB hb3).block b hb) (o+k*17) 17).trans hrow0;have hbw3:=Nat.lt_of_lt_of_le hb (ag hB hb3).size)
      |(have hO3:Go.WW.Own (w3.alloc (.cells (ae x.1 x.2) 44)) W.heap.size 44 17 s3 (R.map cZ++[ae r d]):=hown3.kept fun g hg=>Below.heap_alloc _ _ _ (hown3.base hg).2
        at_builtin;refine gW rfl (.tmp 31) (.tmp 36) _ rfl uZ (n:=m+1) (s:=s3) rfl (by have:=hlr.out;simp[this]) hO3 rfl rfl (cO.new _ (ae x.1 x.2) _ _ (by simp[go_sem]) (by simp[go_sem])) (by have:=hlr.out;simp[this];omega) (by have h9:=hb3.size;simp;omega) ?_;intro s4 w4 hown4 hg4 Fj;have hb4:=tq hO3 (ay hb3 _) hg4))
     have HL:=Lib.hid (show(R++[(r,d)]++[x]).length=m+1+1 by have:=hlr.out;simp[this])
     have HO:Go.WW.Own w4 W.heap.size 44 17 s4 ((R++[(r,d)]++[x]).map cZ):=by simpa[cZ]using hown4
     go_roundw
     case rel=>exact⟨k+1,m+1+1,true,s4,_,by omega,by have:=hdn.out (by trivial);omega,(fun h=>by cases h),by go_num,rfl,rfl,HL.out,HI.out,hb4,HO⟩
     case measure=>simp[intOf];omega
    ·have HI:=Lib.hid (abt hI.out hlt hc)
     generalize X[k]=x at *
     go_wp2_with fail
     refine dN (Below.refl _ wr) (by kernel_rfl) (by kernel_rfl) ?_
     repeat (go_big_quiet_step ((go_at_call 130;rename_i xw;exact Calls.iq (Qk _ _ _ _ _ ((he.name.later hBr).later xw.b) ((hmk'.name.later hBr).later xw.b)))))
     refine wpQuiet_nil ?_
     intro w2 hb2
     have hb2':=ag hbr hb2
     have hrow3:=(fG ((ag hB hb2').block b hb) (o+k*17) 17).trans hrow0
     have hbw3:=Nat.lt_of_lt_of_le hb (ag hB hb2').size
     have hO3:Go.WW.Own (w2.alloc (.cells (ae x.1 x.2) 44)) W.heap.size 44 17 so (R.map cZ):=hO.kept fun g hg=>by rw[Below.heap_alloc _ _ _ (Nat.lt_of_lt_of_le (hO.base hg).2 hb2.size)];exact hb2.block g (hO.base hg).2
     clear Ce hx2 hrow hrow2
     go_wp2_with (at_builtin;refine gW rfl (.tmp 31) (.tmp 36) _ rfl uZ (n:=m) (s:=so) rfl (by have:=hlr.out;simp[this]) hO3 rfl rfl (cO.new _ (ae x.1 x.2) _ _ (by simp[go_sem]) (by simp[go_sem])) (by have:=hlr.out;simp[this];omega) (by have h9:=hb2'.size;simp;omega) ?_;intro s4 w4 hown4 hg4 Fj;have hb4:=tq hO3 (ay hb2' _) hg4)
     have HL:=Lib.hid (show(R++[x]).length=m+1 by have:=hlr.out;simp[this])
     have HO:Go.WW.Own w4 W.heap.size 44 17 s4 ((R++[x]).map cZ):=by simpa[cZ]using hown4
     go_roundw
     case rel=>exact⟨k+1,m+1,false,s4,_,by omega,by omega,(fun _=>by have:=hdn.out (by trivial);omega),by go_num,rfl,rfl,HL.out,HI.out,hb4,HO⟩
     case measure=>simp[intOf];omega
   ·have HI:=Lib.hid (abu hI.out hlt)
    generalize X[k]=x at *
    go_wp2_with fail
    refine dN (Below.refl _ wr) (by kernel_rfl) (by kernel_rfl) ?_
    repeat (go_big_quiet_step (fail))
    refine wpQuiet_nil ?_
    intro w2 hb2
    have hb2':=ag hbr hb2
    have hrow3:=(fG ((ag hB hb2').block b hb) (o+k*17) 17).trans hrow0
    have hbw3:=Nat.lt_of_lt_of_le hb (ag hB hb2').size
    have hO3:Go.WW.Own (w2.alloc (.cells (ae x.1 x.2) 44)) W.heap.size 44 17 so (R.map cZ):=hO.kept fun g hg=>by rw[Below.heap_alloc _ _ _ (Nat.lt_of_lt_of_le (hO.base hg).2 hb2.size)];exact hb2.block g (hO.base hg).2
    clear Ce hx2 hrow hrow2
    go_wp2_with (at_builtin;refine gW rfl (.tmp 31) (.tmp 36) _ rfl uZ (n:=m) (s:=so) rfl (by have:=hlr.out;simp[this]) hO3 rfl rfl (cO.new _ (ae x.1 x.2) _ _ (by simp[go_sem]) (by simp[go_sem])) (by have:=hlr.out;simp[this];omega) (by have h9:=hb2'.size;simp;omega) ?_;intro s4 w4 hown4 hg4 Fj;have hb4:=tq hO3 (ay hb2' _) hg4)
    have HL:=Lib.hid (show(R++[x]).length=m+1 by have:=hlr.out;simp[this])
    have HO:Go.WW.Own w4 W.heap.size 44 17 s4 ((R++[x]).map cZ):=by simpa[cZ]using hown4
    go_roundw
    case rel=>exact⟨k+1,m+1,true,s4,_,by omega,by omega,(fun h=>by cases h),by go_num,rfl,rfl,HL.out,HI.out,hb4,HO⟩
    case measure=>simp[intOf];omega
  ·have hBr:=ag hB hbr
   cases dn
   ·have HI:=Lib.hid (abw hI.out (by omega))
    have hown:Go.WW.Own (wr.alloc (.cells (ae r d) 44)) W.heap.size 44 17 so (R.map cZ):=hO.kept fun g hg=>Below.heap_alloc _ _ _ (hO.base hg).2
    go_wp2_with (at_builtin;refine gW rfl (.tmp 40) (.tmp 42) _ rfl uZ (n:=m) (s:=so) rfl (by have:=hlr.out;simp[this]) hown rfl rfl (cO.new _ (ae r d) _ _ (by simp[go_sem]) (by simp[go_sem])) (by have:=hlr.out;simp[this];omega) (by have h9:=hbr.size;simp;omega) ?_;intro s3 w3 hown3 hg3 iD)
    have hb3:=tq hown (ay hbr _) hg3
    have HL:=Lib.hid (show(R++[(r,d)]).length=m+1 by have:=hlr.out;simp[this])
    have HO:Go.WW.Own w3 W.heap.size 44 17 s3 ((R++[(r,d)]).map cZ):=by simpa[cZ]using hown3
    go_wp2_with fail
    go_ret
    refine⟨s3,by rw[HI.out,HL.out];rfl,ag hB hb3,?_⟩
    rw[HI.out]
    exact fun y hy=>gz.iM (HO.kept fun _ hg=>hy _ ⟨by have:=(HO.base hg).1;omega,(HO.base hg).2⟩) (by rw[HL.out];unfold lim;omega)
   ·have HI:=Lib.hid (abv hI.out (by omega))
    go_wp2_with fail
    go_ret
    refine⟨so,by rw[HI.out,hlr.out];rfl,hBr,?_⟩
    rw[HI.out]
    exact fun y hy=>gz.iM (hO.kept fun _ hg=>hy _ ⟨by have:=(hO.base hg).1;omega,(hO.base hg).2⟩) (by rw[hlr.out];unfold lim;omega)
end Go.Proofs.YtpfifochimkpfaaGreatDoor
namespace Go.Proofs
theorem Tryz.stringslite_IndexByte(s:ByteArray)(c:Int)(w:World) :
  Calls Tryz.prog 260 #[.string s,.int .u8 c] w fun e w'=>e=.returned (.int .i64 (Lib.indexByte s.data.toList c.toNat.toUInt8))∧w'=w:=by
 go_enter Tryz.func260,Tryz.ntmps260
 go_wp2
 rw[run_callFunc_extern Tryz.func274 (by kernel_rfl) (by kernel_rfl) (by kernel_rfl) (e:=Extern.BytealgIndexByte.indexByte) (by kernel_rfl),Lib.run_indexByteString]
 simp only[Result.andThen]
 rw[Oper.upon_value]
 go_wp2
 go_ret
 exact⟨rfl,rfl⟩
theorem Tryz.stringslite_Index_one(s:ByteArray)(c:UInt8)(w:World) :
  Calls Tryz.prog 238 #[.string s,.string ⟨#[c]⟩] w fun e w'=>e=.returned (.int .i64 (Lib.indexByte s.data.toList c))∧w'=w:=by
 go_enter Tryz.func238,Tryz.ntmps238
 go_wp2_with (go_at_call 260;refine(Tryz.stringslite_IndexByte _ _ _).mono ?_;rintro e w' ⟨rfl,rfl⟩)
 ·have h:([c] == s.toList)=true:=by assumption
  go_ret
  refine⟨?_,rfl⟩
  have e:s.data.toList=[c]:=by rw[←Lib.toList_data];exact(beq_iff_eq.1 h).symm
  rw[e]
  simp[Lib.indexByte]
 ·go_ret
  exact⟨rfl,rfl⟩
theorem Tryz.strings_Index_one(s:ByteArray)(c:UInt8)(w:World) :
  Calls Tryz.prog 208 #[.string s,.string ⟨#[c]⟩] w fun e w'=>e=.returned (.int .i64 (Lib.indexByte s.data.toList c))∧w'=w:=by
 go_enter Tryz.func208,Tryz.ntmps208
 go_wp2_with (go_at_call 238;refine(Tryz.stringslite_Index_one _ _ _).mono ?_;rintro e w' ⟨rfl,rfl⟩)
 go_ret
 exact⟨rfl,rfl⟩
end Go.Proofs
namespace Go.WW
open Go.RowKit
def Qw{α:Type}(F:Fence)(n:Nat)(P:Program)(g:Nat)(lb:Array Value)(encs:α→Array Value)(bs B:Nat)(ok:α→Prop)(S Sp:List α→Prop)(w:World):Prop:=
 ∀(l:Nat) (J Jx:List α→World→Prop) (W:World),Below B w W→
  (∀pre W1 v,J pre W1→J pre (W1.setCell ⟨bs,0,none⟩ v))→
  (∀pre x W1,ok x→J pre W1→YieldAt F (n-1) P l (encs x) W1 fun e W'=>
   (e=.returned (.bool true)∧J (pre++[x]) W'∧Below B W1 W')∨(e=.returned (.bool false)∧Jx (pre++[x]) W'))→
  J [] W→
  CallsIn F n P g (#[.func (.yield l) #[] #[]]++lb) W fun e W'=>(∃v,e=.returned v)∧((∃xs,S xs∧J xs W')∨(∃pre,Sp pre∧Jx pre W'))
def Qx{α:Type}(B:Nat)(I Ix:List α→World→Prop)(xs:List α)(W:World):Exit→Act→World→Prop
 | .normal,_,W'=>KeepsOthers W W'∧Below B W W'∧I xs W'
 | .ret,_,W'=>KeepsOthers W W'∧Ix xs W'
 |_,_,_=>False
variable {F:Fence} {n:Nat} {P:Program}
theorem abz{α:Type}{g:Operand}{ps:Array Tmp}{assign body:Code}{Q:Exit→Act→World→Prop}{a:Act}{w:World}
  (hro:F.round=none) (h1:1≤n) {gf:Nat} {lb:Array Value} (hg:a.eval g=.func (.func gf) #[] lb) (hFg:F.fn gf) (eg:∀args w,(callFunc gf args).run P w=.ok (.enter gf args) w)
  {encs:α→Array Value} {bs:Nat} {ok:α→Prop} {S Sp:List α→Prop} (hseq:Qw F (n-1) P gf lb encs bs w.heap.size ok S Sp w) (hbs:bs<w.heap.size) (hps:∀x,(encs x).size=ps.size)
  (I Ix:List α→World→Prop) (hI:OwnFrom w.heap.size I) (hIs:∀s W v,I s W→I s (W.setCell ⟨bs,0,none⟩ v)) (hIx:OwnFrom w.heap.size Ix) (h0:I [] w) (a₁:α→Act)
  (hassign:∀(l:Nat) (x:α) (W:World) (K:Act→World→Prop),K (a₁ x) W→
   assign.wpIn (F.inRound l) (n-1-1) P (Exit.then K (fun _ _ _=>False)) {tmps:=(ps.zip (encs x)).foldl (fun t (p,v)=>t.setIfInBounds p v) a.tmps,defers:=[]} W)
  (hbody:∀(l:Nat) (pre:List α) (x:α) (W:World),ok x→I pre W→body.wpIn (F.inRound l) (n-1-1) P (Qx w.heap.size I Ix (pre++[x]) W) (a₁ x) W)
  (hdone:∀(D:Nat) (xs:List α) (W:World),w.heap.size≤D→S xs→I xs W→W.heap[D]?=some (.deferred (some []))→Q .normal {a with defers:={target:=.collected D,args:=#[]}::a.defers} W)
  (hstop:∀(D:Nat) (pre:List α) (W:World),w.heap.size≤D→Sp pre→Ix pre W→W.heap[D]?=some (.deferred (some []))→Code.ret.wpIn F n P Q {a with defers:={target:=.collected D,args:=#[]}::a.defers} W) :
  (Code.rangeFunc g ps assign body).wpIn F n P Q a w:=by
 refine wpIn_rangeFunc ?_
 intro fn hfn
 rw[hro]
 obtain⟨lp,hlp⟩:∃lp:LoopState→Option Code→Loop,lp=fun st pe=>{state:=st,pending:=pe,fn,tmps:=a.tmps,params:=ps,assign,body,defers:=w.heap.size}:=⟨_,rfl⟩
 obtain⟨V,hV⟩:∃V,(w.alloc (.deferred (some []))).alloc (.loop (lp .ready none))=V:=⟨_,rfl⟩
 have hL:V.heap[w.heap.size+1]?=some (.loop (lp .ready none)):=by
  have:=World.alloc_heap_new (w.alloc (.deferred (some []))) (.loop (lp .ready none))
  rw[World.size_alloc,hV]at this;exact this
 have hD:V.heap[w.heap.size]?=some (.deferred (some [])):=by
  rw[←hV];exact(Below.heap_alloc _ _ _ (by simp)).trans (World.alloc_heap_new w _)
 have hB:Below w.heap.size w V:=by
  rw[←hV];exact((Below.refl _ w).alloc (Nat.le_refl _) _).alloc (by simp) _
 refine⟨w.heap.size+1,[{target:=.collected w.heap.size,args:=#[]}],V,{target:=.fn (.func gf) lb,args:=#[.func (.yield (w.heap.size+1)) #[] #[]]},V,gf,
  #[.func (.yield (w.heap.size+1)) #[] #[]]++lb,V,?_,?_,?_,?_,fun _=>h1,?_⟩
 ·rw[←hV,hlp];exact run_enterLoop_outer _ _ _ _ _
 ·simp only[resolve,hg];simp[go_sem]
 ·intro f' hf';simp[Target.leads]at hf';subst hf';exact hFg
 ·simp[invoke,go_sem,eg]
 ·refine(hseq (w.heap.size+1)
   (fun pre W=>I pre W∧W.heap[w.heap.size+1]?=some (.loop (lp .ready none))∧W.heap[w.heap.size]?=some (.deferred (some [])))
   (fun pre W=>Ix pre W∧W.heap[w.heap.size+1]?=some (.loop (lp .done (some .ret)))∧W.heap[w.heap.size]?=some (.deferred (some [])))
   V hB
   (fun pre W1 v hs=>⟨hIs _ _ _ hs.1,(Below.heap_setCell _ _ _ _ (by simp;omega)).trans hs.2.1,(Below.heap_setCell _ _ _ _ (by simp;omega)).trans hs.2.2⟩)
   ?_ ⟨by rw[←hV];exact hI.alloc _ (hI.alloc _ h0),hL,hD⟩).mono ?_
  ·rintro pre x W hx ⟨hi,hl,hk⟩
   have hlt:w.heap.size+1<W.heap.size:=(Array.getElem?_eq_some_iff.1 hl).1
   have hy:=run_yield (P:=P) (args:=encs x) hl (by rw[hlp];exact hps x)
   rw[hlp]at hy
   refine⟨fn,_,assign,body,hy,roundIn_of_wpIn hfn (hassign _ x W _ ⟨_,run_beginRound hl (by rw[hlp]),?_⟩)⟩
   obtain⟨U,hU⟩:∃U,W.putObj (w.heap.size+1) (.loop {lp .ready none with state:=.busy})=U:=⟨_,rfl⟩
   have hl2:U.heap[w.heap.size+1]?=some (.loop {lp .ready none with state:=.busy}):=by rw[←hU];exact World.putObj_heap_same hlt
   have hk2:U.heap[w.heap.size]?=some (.deferred (some [])):=by rw[←hU];exact(World.putObj_heap_other (by omega)).trans hk
   have hw2:Below w.heap.size W U:=by rw[←hU];exact belowK_b (w:=w) (Nat.le_refl _) _ _ _ _ (by omega) hl rfl rfl
   have hi2:I pre U:=by rw[←hU];exact hI.putObj _ hi (by omega) hl rfl
   rw[hU]
   refine wpIn_mono (hbody _ pre x _ hx hi2) ?_
   have over:∀(jump:Option Code) (X:World),KeepsOthers U X→
     (Instr.endRound (w.heap.size+1) jump).run P X=.ok (.bool jump.isNone) (X.putObj (w.heap.size+1) (.loop (lp (if jump.isNone then .ready else .done) jump)))∧
     X.heap[w.heap.size+1]?=some (.loop {lp .ready none with state:=.busy})∧
     (X.putObj (w.heap.size+1) (.loop (lp (if jump.isNone then .ready else .done) jump))).heap[w.heap.size+1]?=some (.loop (lp (if jump.isNone then .ready else .done) jump))∧
     (X.putObj (w.heap.size+1) (.loop (lp (if jump.isNone then .ready else .done) jump))).heap[w.heap.size]?=some (.deferred (some [])):=fun jump X hX=>by
    have hl3:=hX.same _ _ hl2 rfl
    have hr:=run_endRound (P:=P) jump hl3
    rw[hlp]at hr ⊢
    exact⟨hr,by rw[hlp]at hl3;exact hl3,World.putObj_heap_same (Array.getElem?_eq_some_iff.1 hl3).1,(World.putObj_heap_other (by omega)).trans (hX.same _ _ hk2 rfl)⟩
   rintro e a3 X hp
   cases e with
   |normal=>
    obtain⟨hX,hbX,qM⟩:=hp
    obtain⟨hr,hl3,hl4,hk4⟩:=over none X hX
    exact⟨_,_,hr,.inl ⟨rfl,⟨hI.putObj _ qM (by omega) hl3 rfl,hl4,hk4⟩,(hw2.trans hbX).trans (belowK_b (w:=w) (Nat.le_refl _) _ _ _ _ (by omega) hl3 rfl rfl)⟩⟩
   |ret=>
    obtain⟨hX,qM⟩:=hp
    obtain⟨hr,hl3,hl4,hk4⟩:=over (some .ret) X hX
    exact⟨_,_,hr,.inr ⟨rfl,hIx.putObj _ qM (by omega) hl3 rfl,hl4,hk4⟩⟩
   |exit id=>exact hp.elim
   |goto t=>exact hp.elim
   |panic ch=>exact hp.elim
   |outgrown=>exact hp.elim
  ·rintro e X ⟨⟨v,rfl⟩,(⟨xs,hS,hi,hl,hk⟩|⟨pre,hSp,hi,hl,hk⟩)⟩
   ·exact⟨none,_,by have:=run_endLoop (P:=P) hl (by rw[hlp];simp);rw[hlp]at this;exact this,hdone _ xs _ (Nat.le_refl _) hS (hI.putObj _ hi (by omega) hl rfl) ((World.putObj_heap_other (by omega)).trans hk)⟩
   ·exact⟨some .ret,_,by have:=run_endLoop (P:=P) hl (by rw[hlp];simp);rw[hlp]at this;exact this,hstop _ pre _ (Nat.le_refl _) hSp (hIx.putObj _ hi (by omega) hl rfl) ((World.putObj_heap_other (by omega)).trans hk)⟩
end Go.WW
namespace Go.WW
def dP(p:Int):Int:=if p == 1 then 16 else if p == 2 then 32 else 0
def nG(k:Key):Bool:=decide (0<dP k.profile)&&((k.bytes.length:Int) == dP k.profile)&&aC k.version 0 65535
def iO(fH ver:Int)(k:Key):Bool:=!(dP k.profile == 0)&&!(k.version != ver)&&(if fH == 0 then nG k else aC k.bytes.length 1 256)
def jA{α:Type}(r:α→α→Bool)(l:List α)(i:Nat):Bool:=i == 0 || (match l[i-1]?,l[i]? with|some a,some b=>r a b|_,_=>true)
def ordered{α:Type}(r:α→α→Bool)(l:List α):Bool:=(List.range l.length).all (jA r l)
def mF(a b:Key):Bool:=decide (a.profile<b.profile)
def jd(s:bP):Bool:=aC s.version 1 65535&&aC s.keys.length 1 4&&decide ((s.dK.size:Int)≤256)&&aC s.dX 0 65536&&(decide (0<s.dX) || s.dK.toList.isEmpty)&&aC s.created 0 1099511627776
def gX(fH:Int)(s:bP):Bool:=s.keys.all (iO fH s.version)&&ordered mF s.keys&&jd s
theorem Fp{f:Nat→Bool}(k:Nat)(h:(List.range k).all f=true)(hn:f k=true):(List.range (k+1)).all f=true:=by
 rw[List.range_succ,List.all_append,h];simp[hn]
theorem Cf{f:Nat→Bool}(n k:Nat)(h:k<n)(hn:f k=false):(List.range n).all f=false:=by
 rw[List.all_eq_false];exact⟨k,List.mem_range.2 h,by simp[hn]⟩
theorem abB{f:Nat→Bool}(n k:Nat)(hk:k=n)(h:(List.range k).all f=true):(List.range n).all f=true:=by subst hk;exact h
end Go.WW
namespace Go.Proofs.YtpfifochimkpfaaGreatDoor
open Go.RowKit Go.WW
theorem tu(p:Int)(w:World):Calls Tryz.prog 136 #[.int .i64 p] w fun e w'=>e=.returned (.int .i64 (dP p))∧w=w':=by
 rcases(show p=1∨p=2∨(¬p=1∧¬p=2) by omega)with rfl|rfl|⟨h1,h2⟩
 iterate 2
  ·go_enter Tryz.func136,Tryz.ntmps136
   go_wp2
   go_ret
   exact⟨rfl,rfl⟩
 ·have h1':(p == 1)=false:=by simpa using h1
  have h2':(p == 2)=false:=by simpa using h2
  have HK:Hid (dP p=0):=by simp[Hid,dP,h1,h2]
  clear h1 h2
  go_enter Tryz.func136,Tryz.ntmps136
  go_wp2
  go_ret
  exact⟨by rw[HK.out];rfl,rfl⟩
theorem yu(s:Sl)(k:Key)(w:World):Calls Tryz.prog 137 #[.agg (dD s k)] w fun e w'=>e=.returned (.bool (nG k))∧Below w.heap.size w w':=by
 have hB:∀ob,Below w.heap.size w (w.alloc ob):=fun ob=>(Below.refl _ _).alloc (Nat.le_refl _) _
 by_cases h1:0<dP k.profile
 ·by_cases h2:(k.bytes.length:Int)=dP k.profile
  ·have h2':((k.bytes.length:Int) == dP k.profile)=true:=by simp[h2]
   have HF:Hid (nG k=aC k.version 0 65535):=by simp[Hid,nG,h1,h2]
   clear h2
   go_enter Tryz.func137,Tryz.ntmps137
   go_wp2
   refine dN (Below.refl _ _) (by kernel_rfl) (by kernel_rfl) ?_
   repeat (go_big_quiet_step (first|(go_at_call 136;exact Calls.uS (tu _ _))|(go_at_call 81;exact Calls.uS (qJ _ _ _ _))))
   refine wpQuiet_nil ?_
   intro w2 hb2
   go_wp2
   go_ret
   exact⟨by rw[HF.out];rfl,(hB _).trans (hb2.mono (by simp))⟩
  ·have h2':((k.bytes.length:Int) == dP k.profile)=false:=by simp[h2]
   have HF:Hid (nG k=false):=by simp[Hid,nG,h2]
   clear h2
   go_enter Tryz.func137,Tryz.ntmps137
   go_wp2
   refine dN (Below.refl _ _) (by kernel_rfl) (by kernel_rfl) ?_
   repeat (go_big_quiet_step ((go_at_call 136;exact Calls.uS (tu _ _))))
   refine wpQuiet_nil ?_
   intro w2 hb2
   go_wp2
   go_ret
   exact⟨by rw[HF.out];rfl,(hB _).trans (hb2.mono (by simp))⟩
 ·have h1':decide (0<dP k.profile)=false:=by simpa using h1
  have HF:Hid (nG k=false):=by simp[Hid,nG,h1']
  clear h1
  go_enter Tryz.func137,Tryz.ntmps137
  go_wp2
  refine dN (Below.refl _ _) (by kernel_rfl) (by kernel_rfl) ?_
  repeat (go_big_quiet_step ((go_at_call 136;exact Calls.uS (tu _ _))))
  refine wpQuiet_nil ?_
  intro w2 hb2
  go_wp2
  go_ret
  exact⟨by rw[HF.out];rfl,(hB _).trans (hb2.mono (by simp))⟩
end Go.Proofs.YtpfifochimkpfaaGreatDoor
