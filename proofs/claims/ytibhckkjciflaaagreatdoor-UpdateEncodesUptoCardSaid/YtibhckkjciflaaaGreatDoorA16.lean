/- A part of the proof. -/
import Derived.Test.YtibhckkjciflaaaGreatDoorA15
import Derived.OwnWalk
import Derived.Laws.BytesString
import Derived.RangeFuncOwn
import Derived.Test.YtibhckkjciflaaaGreatDoorA14
import Derived.Lib.Strings
import Derived.Lib.Slices
import Derived.Lib.Walk
import Derived.Lib.Bytealg
import Derived.RangeFuncNested
import Derived.RangeFuncBound
import Derived.RangeFuncCalls
import Derived.RangeFuncLeaves
import Derived.Shelf.Abstract
import Derived.Shelf.RegionOpen
import Derived.OwnWalkIn
import Derived.TacticsInMore
import Derived.LoopNIn
import Derived.LoopIn
set_option maxRecDepth 100000
set_option maxHeartbeats 8000000
namespace Go.WW
open Go.RowKit
theorem jA{w:World}{b o:Nat}{c:Array Value}{t:TypeId}(v:Value)(h:w.heap[b]?=some (.cells c t)):(w.setCell ⟨b,o,none⟩ v).heap[b]?=some (.cells (c.setIfInBounds o v) t):=by
 simp[World.setCell,Array.getElem?_modify,h]
theorem O4{b:Nat}{t:TypeId}:∀(l:List Value) (o:Nat) (c:Array Value) (w:World),w.heap[b]?=some (.cells c t)→
  (w.setCells b o l).heap[b]?=some (.cells ((l.zipIdx o).foldl (fun c x=>c.setIfInBounds x.2 x.1) c) t)
 | [],_,_,_,h=>h
 |v::l,o,c,w,h=>by
  rw[World.setCells]
  exact O4 l (o+1) _ _ (jA v h)
theorem O5{b k:Nat}(hk:k≠b):∀(l:List Value) (o:Nat) (w:World),(w.setCells b o l).heap[k]?=w.heap[k]?
 | [],_,_=>rfl
 |v::l,o,w=>by
  rw[World.setCells,O5 hk l (o+1)]
  exact Below.heap_setCell w _ v k hk
theorem O6{b B:Nat}(hB:B≤b):∀(l:List Value) (o:Nat) (w:World),Below B w (w.setCells b o l)
 | [],_,w=>Below.refl _ _
 |v::l,o,w=>by
  rw[World.setCells]
  exact((Below.refl B w).setCell (p:=⟨b,o,none⟩) hB v).trans (O6 hB l (o+1) _)
theorem setCells_size{b:Nat}:∀(l:List Value) (o:Nat) (w:World),(w.setCells b o l).heap.size=w.heap.size
 | [],_,w=>rfl
 |v::l,o,w=>by
  rw[World.setCells,setCells_size l (o+1)]
  simp[World.setCell]
theorem O7(post:List Value):∀(pre l m:List Value),l.length=m.length→
  ((m.zipIdx pre.length).foldl (fun(c:Array Value) x=>c.setIfInBounds x.2 x.1) (pre++l++post).toArray)=(pre++m++post).toArray
 |_,[],[],_=>by simp
 |pre,x::l,y::m,h=>by
  have ih:=O7 post (pre++[y]) l m (by simpa using h)
  simp only[List.zipIdx_cons,List.foldl_cons]
  have e:(pre++x::l++post).toArray.setIfInBounds pre.length y=((pre++[y])++l++post).toArray:=by simp
  rw[e]
  simpa using ih
def splice(c:Array Value)(o:Nat)(cs:Array Value):Array Value:=(c.toList.take o++cs.toList++c.toList.drop (o+cs.size)).toArray
theorem O8{c:Array Value}{o:Nat}{cs:Array Value}(h:o+cs.size≤c.size):(splice c o cs).size=c.size:=by simp[splice];omega
theorem nR{w:World}{b o:Nat}{c cs:Array Value}{t:TypeId}(h:w.heap[b]?=some (.cells c t))(ho:o+cs.size≤c.size):(putRow w b o cs).heap[b]?=some (.cells (splice c o cs) t):=by
 unfold putRow
 rw[O4 cs.toList o c w h]
 have:=O7 (c.toList.drop (o+cs.size)) (c.toList.take o) ((c.toList.drop o).take cs.size) cs.toList (by simp;omega)
 have e:c.toList.take o++(c.toList.drop o).take cs.size++c.toList.drop (o+cs.size)=c.toList:=by
  rw[List.append_assoc,←List.drop_drop,List.take_append_drop,List.take_append_drop]
 have ho':(c.toList.take o).length=o:=by simp;omega
 rw[e,ho']at this
 rw[show c.toList.toArray=c by simp]at this
 rw[this]
 rfl
theorem iP{w:World}{b o k:Nat}{cs:Array Value}(h:k≠b):(putRow w b o cs).heap[k]?=w.heap[k]?:=O5 h _ _ _
theorem kL(w:World)(b o:Nat)(cs:Array Value):(putRow w b o cs).heap.size=w.heap.size:=setCells_size _ _ _
theorem Below.putRow{B b o:Nat}{W w:World}{cs:Array Value}(h:Below B W w)(hB:B≤b):Below B W (Go.WW.putRow w b o cs):=h.trans (O6 hB _ _ _)
theorem uj{w:World}{b o n:Nat}(h:aS w b o n=true):∃c t,w.heap[b]?=some (.cells c t)∧o+n≤c.size:=by
 unfold aS at h
 split at h
 ·rename_i c t f hb
  simp only[Bool.and_eq_true,decide_eq_true_eq]at h
  obtain⟨h1,rfl⟩:=h
  exact⟨c,t,hb,h1⟩
 ·cases h
theorem ql{w:World}{b n:Nat}{cs:Array Value}(hn:cs.size=n)(hc:aS w b 0 n=true):row? (putRow w b 0 cs) b 0 n=some cs:=by
 subst hn
 obtain⟨c,t,hb,hs⟩:=uj hc
 unfold row?
 rw[nR hb hs]
 have hs':0+cs.size≤(splice c 0 cs).size:=by rw[O8 hs];exact hs
 show(if 0+cs.size≤(splice c 0 cs).size then _ else _)=_
 rw[if_pos hs']
 simp[splice]
theorem aaH{w:World}{b j:Nat}{cs:Array Value}(hc:aS w b 0 cs.size=true)(hj:j<cs.size):(putRow w b 0 cs).cell? ⟨b,j,none⟩=cs[j]?:=by
 have:=kF (ql rfl hc) j hj
 simpa using this
theorem aaI{w:World}{b o k o' n:Nat}{cs:Array Value}(h:k≠b):row? (putRow w b o cs) k o' n=row? w k o' n:=tJ (iP h) o' n
theorem cell?_putRow_other{w:World}{b o k o':Nat}{cs:Array Value}(h:k≠b):(putRow w b o cs).cell? ⟨k,o',none⟩=w.cell? ⟨k,o',none⟩:=World.cell?_of_block (a:=⟨k,o',none⟩) (iP h)
theorem qX{w:World}{b o k o' n:Nat}{cs:Array Value}(h:k≠b):aS (putRow w b o cs) k o' n=aS w k o' n:=DV (iP h) o' n
theorem aaJ{P:Program}{w:World}{b o:Nat}{cs:Array Value}(hc:aS w b o cs.size=true)(h1:dG cs=true):(storeCells ⟨b,o,none⟩ cs.toList).run P w=.ok () (putRow w b o cs):=by
 have ht:=OA hc
 have h0:=run_storeCells_cells (P:=P) b o cs.toList 0 w (fun j hj=>(ht j (by simpa using hj)).1) (fun j hj=>(ht j (by simpa using hj)).2) (fun u hu=>by unfold dG at h1;rw[Array.all_eq_true']at h1;exact h1 u (by simpa using hu))
 unfold putRow
 simpa using h0
theorem nS{w:World}{b o n:Nat}{c:Array Value}{t:TypeId}(h:w.heap[b]?=some (.cells c t))(hn:o+n≤c.size):aS w b o n=true:=by unfold aS;rw[h];simp[hn]
theorem AB{w:World}{b o n:Nat}{c:Array Value}{t:TypeId}(h:w.heap[b]?=some (.cells c t)):row? w b o n=mF c o n:=by unfold row? mF;rw[h]
theorem jJ{W w1:World}(hb:Below W.heap.size W w1):∀b o n,b<W.heap.size→aS w1 b o n=aS W b o n:=fun b o n h=>DV (hb.block b h) o n
theorem aaK(w:World)(b o n:Nat):aS w.drew b o n=aS w b o n:=rfl
attribute [go_sem] ql aaH aaI cell?_putRow_other qX aaJ aaK
theorem foldl_push(l:List UInt8):∀(acc:List UInt8),((l.map fun c=>((c.toNat:Nat):Int)).foldl (fun(r:ByteArray) n=>r.push (UInt8.ofNat n.toNat)) ⟨acc.toArray⟩)=⟨(acc++l).toArray⟩:=by
 induction l with
 |nil=>intro acc;simp
 |cons c l ih=>
  intro acc
  rw[List.map_cons,List.foldl_cons]
  have e:(ByteArray.mk acc.toArray).push (UInt8.ofNat ((c.toNat:Nat):Int).toNat)=⟨(acc++[c]).toArray⟩:=by
   simp[ByteArray.push]
  rw[e,ih]
  simp
theorem I8{P:Program}(w:World)(src dst e:TypeId)(hs:P.underlying src=some (.slice e))(he:P.underlying e=some (.int .u8))(hd:P.underlying dst=some .string)(b o cap:Nat)(l:List UInt8)
  (h:∀i (hi:i<l.length),w.cell? ⟨b,o+i,none⟩=some (.int .u8 l[i].toNat)):(convert src dst (.slice (some ⟨b,o,none⟩) l.length cap)).run P w=.ok (.string ⟨l.toArray⟩) w:=by
 rw[run_convert_bytes_string w src dst e _ _ _ hs he hd]
 have hl:(loadCells ⟨b,o,none⟩ l.length).run P w=.ok ((l.map fun c=>((c.toNat:Nat):Int)).map (Value.int .u8)).toArray w:=by
  have:=run_loadCells_list (P:=P) w ⟨b,o,none⟩ ((l.map fun c=>((c.toNat:Nat):Int)).map (Value.int .u8)) (fun j v hv=>by
   have hj:j<l.length:=by have:=(List.getElem?_eq_some_iff.1 hv).1;simpa using this
   have hadd:(⟨b,o,none⟩:Addr).add j=⟨b,o+j,none⟩:=by unfold Addr.add;split<;>simp_all
   rw[hadd,h j hj]
   simp[hj]at hv
   rw[←hv])
  simpa using this
 rw[run_bytesToString w _ _ _ _ hl]
 have e0:ByteArray.empty=⟨([]:List UInt8).toArray⟩:=rfl
 rw[e0,foldl_push,List.nil_append]
theorem kZ{P:Program}{ops:Array Oper}{rest:List Oper}{o:Oper}{a:Act}{w:World}{Q:Exit→Act→World→Prop}(hgd:o.guard=none)(x y:Operand)(t:TypeId)(ho:o.op=.call {callee:=.builtin .append,args:=#[x,y],argTypes:=#[t,t]})
  {e:TypeId} {k bytes:Nat} (he:ik P t e k bytes) {base:Nat} {s:Sl} {n:Nat} {rows:List (Array Value)} (hx:a.eval x=.slice s.a n s.cap) (hn:n=rows.length) (h:Own w base e k s rows) {A:Option Addr} {news:List (Array Value)} {m c:Nat}
  (hy:a.eval y=.slice A m c) (hm:m=news.length) (hs:eF w k A news) (hlen:(rows.length+news.length)*(bytes+1)≤140737488355328) (hbase:base≤w.heap.size)
  (hK:∀(s':Sl) w',Own w' base e k s' (rows++news)→w.grownBy w' s.blk→(s'.blk=s.blk∨s'.blk=some w.heap.size)→wpList P ops Q rest (a.put o.dst (.slice s'.a (n+m) s'.cap)) w'):wpList P ops Q (o::rest) a w:=by
 subst hn hm
 exact aaG hgd x y t ho he hx h hy rfl hs hlen hbase hK
theorem cu.src{w:World}{k n:Nat}{a:Option Addr}{R:Nat→Array Value→Prop}(h:cu w k a n R)(hR:∀i cs,R i cs→cs.size=k∧dG cs=true) :
  ∃rows,rows.length=n∧eF w k a rows∧∀i (hi:i<rows.length),R i rows[i]:=by
 rcases Nat.eq_zero_or_pos n with h0|h0
 ·subst h0;exact⟨[],rfl,⟨by simp,by simp,fun i hi=>by simp at hi⟩,fun i hi=>by simp at hi⟩
 ·obtain⟨b,o,_,ha,_⟩:=h.2 0 h0
  have key:∀i,i<n→∃cs,row? w b (o+i*k) k=some cs∧R i cs:=fun i hi=>by
   obtain⟨b',o',cs,ha',hr,hc⟩:=h.2 i hi
   rw[ha]at ha';cases ha'
   exact⟨cs,hr,hc⟩
  have hg:∀i (hi:i<((List.range n).map fun i=>(row? w b (o+i*k) k).getD #[]).length),∃cs,((List.range n).map fun i=>(row? w b (o+i*k) k).getD #[])[i]=cs∧row? w b (o+i*k) k=some cs∧R i cs:=fun i hi=>by
   have hi':i<n:=by simpa using hi
   obtain⟨cs,h1,h2⟩:=key i hi'
   exact⟨cs,by simp[h1],h1,h2⟩
  refine⟨(List.range n).map fun i=>(row? w b (o+i*k) k).getD #[],by simp,⟨fun r hr=>?_,fun r hr=>?_,fun i hi=>?_⟩,fun i hi=>?_⟩
  ·obtain⟨i,hi,rfl⟩:=List.mem_iff_getElem.1 hr
   obtain⟨cs,e,_,h2⟩:=hg i hi
   rw[e];exact(hR i cs h2).1
  ·obtain⟨i,hi,rfl⟩:=List.mem_iff_getElem.1 hr
   obtain⟨cs,e,_,h2⟩:=hg i hi
   rw[e];exact(hR i cs h2).2
  ·obtain⟨cs,e,h1,_⟩:=hg i hi
   exact⟨b,o,ha,by rw[e];exact h1⟩
  ·obtain⟨cs,e,_,h2⟩:=hg i hi
   rw[e];exact h2
theorem cu.lQ{w:World}{base k n:Nat}{e:TypeId}{s:Sl}{rows:List (Array Value)}{R:Nat→Array Value→Prop}(h:Own w base e k s rows)(hl:rows.length=n)(hn:n≤lim)(hR:∀i (hi:i<rows.length),R i rows[i]):cu w k s.a n R:=by
 subst hl
 refine⟨hn,fun i hi=>?_⟩
 obtain⟨g,ha,_,hrow⟩:=h.row i hi
 exact⟨g,0,rows[i],ha,hrow,hR i hi⟩
theorem O9{w:World}{b o:Nat}{v:Value}(h:w.cell? ⟨b,o,none⟩=some v):row? w b o 1=some #[v]:=by
 have hlt:=World.block_lt_of_cell? w _ h
 unfold row?
 cases hb:w.heap[b]? with
 |none=>exfalso;simp[World.cell?,hb]at h
 |some ob=>
  cases ob with
  |cells c t f=>
   rw[cell_of_row w b o c t f hb]at h
   have ho:=(Array.getElem?_eq_some_iff.1 h).1
   show(if o+1≤c.size then _ else _)=_
   rw[if_pos (by omega)]
   congr 1
   apply Array.ext_getElem?
   intro j
   rw[Array.getElem?_extract]
   by_cases hj:j=0
   ·subst hj;rw[if_pos (by omega)];simpa using h
   ·rw[if_neg (by omega)];simp;omega
  |_=>exfalso;simp[World.cell?,hb]at h
theorem eu.src{w:World}{n:Nat}{a:Option Addr}{R:Nat→Value→Prop}(h:eu w a n R)(hR:∀i v,R i v→v.oneCell'=true) :
  ∃rows,rows.length=n∧eF w 1 a rows∧∀i (hi:i<rows.length),∃v,rows[i]=#[v]∧R i v:=by
 have h':cu w 1 a n (fun i cs=>∃v,cs=#[v]∧R i v):=⟨h.1,fun i hi=>by
  obtain⟨b,o,v,ha,hc,hr⟩:=h.2 i hi
  exact⟨b,o,#[v],ha,by rw[Nat.mul_one];exact O9 hc,v,rfl,hr⟩⟩
 obtain⟨rows,h1,h2,h3⟩:=h'.src (fun i cs ⟨v,e,hr⟩=>by subst e;exact⟨rfl,by simp[dG,hR i v hr]⟩)
 exact⟨rows,h1,h2,h3⟩
theorem eu.lQ{w:World}{base n:Nat}{e:TypeId}{s:Sl}{rows:List (Array Value)}{R:Nat→Value→Prop}(h:Own w base e 1 s rows)(hl:rows.length=n)(hn:n≤lim)(hR:∀i (hi:i<rows.length),∃v,rows[i]=#[v]∧R i v):eu w s.a n R:=by
 subst hl
 refine⟨hn,fun i hi=>?_⟩
 obtain⟨g,ha,_,hrow⟩:=h.row i hi
 obtain⟨v,e,hr⟩:=hR i hi
 refine⟨g,0,v,ha,?_,hr⟩
 have:=kF hrow 0 (by omega)
 rw[e,Nat.mul_one]at this
 simpa using this
theorem aaL{P:Program}{ops:Array Oper}{rest:List Oper}{o:Oper}{a:Act}{w:World}{Q:Exit→Act→World→Prop}(hw:Region.wanted o (yielded ops a.tmps)=true)(x y:Operand)(t:TypeId)(ho:o.op=.call {callee:=.builtin .append,args:=#[x,y],argTypes:=#[t,t]})
  {e:TypeId} {k bytes:Nat} (he:ik P t e k bytes) {base:Nat} {s:Sl} {n:Nat} {rows:List (Array Value)} (hx:a.eval x=.slice s.a n s.cap) (hn:n=rows.length) (h:Own w base e k s rows) {A:Option Addr} {news:List (Array Value)} {m c:Nat}
  (hy:a.eval y=.slice A m c) (hm:m=news.length) (hs:eF w k A news) (hlen:(rows.length+news.length)*(bytes+1)≤140737488355328) (hbase:base≤w.heap.size)
  (hK:∀(s':Sl) w',Own w' base e k s' (rows++news)→w.grownBy w' s.blk→(s'.blk=s.blk∨s'.blk=some w.heap.size)→wpList P ops Q rest (a.put o.dst (.slice s'.a (n+m) s'.cap)) w'):wpList P ops Q (o::rest) a w:=by
 subst hn hm
 refine wpList_step fun K hK'=>?_
 rw[if_pos hw]
 exact I5 x y t ho he hx h hy rfl hs hlen hbase fun s' w' h2 h3 h4=>hK' _ _ (hK s' w' h2 h3 h4)
theorem Own.one(w:World)(cs:Array Value)(t:TypeId)(k:Nat)(hs:cs.size=k):Own (w.alloc (.cells cs t)) w.heap.size t k ⟨some ⟨w.heap.size,0,none⟩,1⟩ [cs]:=by
 refine⟨⟨by simp[flat,hs],.inr ⟨w.heap.size,1,cs,rfl,Nat.le_refl _,World.alloc_heap_new w _,Nat.le_refl _,by unfold maxLen;omega,by simp[hs],?_⟩⟩,by simpa using hs⟩
 simp only[flat,List.flatMap_cons,List.flatMap_nil,List.append_nil,List.length_singleton,Nat.one_mul]
 exact List.take_of_length_le (by simp[hs])
theorem Ef{w:World}{l:List aG}(i:Nat)(cs:Array Value)(h:∃p s,l[i]?=some p∧cs=aJ s p∧gu w s p):cs.size=2∧dG cs=true:=by
 obtain⟨p,s,_,rfl,_⟩:=h;exact⟨Ai s p,OI s p⟩
end Go.WW
namespace Go.Proofs
theorem Tryz.stringslite_IndexByte(s:ByteArray)(c:Int)(w:World) :
  Calls Tryz.prog 293 #[.string s,.int .u8 c] w fun e w'=>e=.returned (.int .i64 (Lib.indexByte s.data.toList c.toNat.toUInt8))∧w'=w:=by
 go_enter Tryz.func293,Tryz.ntmps293
 go_wp2
 rw[run_callFunc_extern Tryz.func345 (by kernel_rfl) (by kernel_rfl) (by kernel_rfl) (e:=Extern.BytealgIndexByte.indexByte) (by kernel_rfl),Lib.run_indexByteString]
 simp only[Result.andThen]
 rw[Oper.upon_value]
 go_wp2
 go_ret
 exact⟨rfl,rfl⟩
theorem Tryz.stringslite_Index_one(s:ByteArray)(c:UInt8)(w:World) :
  Calls Tryz.prog 256 #[.string s,.string ⟨#[c]⟩] w fun e w'=>e=.returned (.int .i64 (Lib.indexByte s.data.toList c))∧w'=w:=by
 go_enter Tryz.func256,Tryz.ntmps256
 go_wp2_with (go_at_call 293;refine(Tryz.stringslite_IndexByte _ _ _).mono ?_;rintro e w' ⟨rfl,rfl⟩)
 ·have h:([c] == s.toList)=true:=by assumption
  go_ret
  refine⟨?_,rfl⟩
  have e:s.data.toList=[c]:=by rw[←Lib.toList_data];exact(beq_iff_eq.1 h).symm
  rw[e]
  simp[Lib.indexByte]
 ·go_ret
  exact⟨rfl,rfl⟩
theorem Tryz.strings_Index_one(s:ByteArray)(c:UInt8)(w:World) :
  Calls Tryz.prog 212 #[.string s,.string ⟨#[c]⟩] w fun e w'=>e=.returned (.int .i64 (Lib.indexByte s.data.toList c))∧w'=w:=by
 go_enter Tryz.func212,Tryz.ntmps212
 go_wp2_with (go_at_call 256;refine(Tryz.stringslite_Index_one _ _ _).mono ?_;rintro e w' ⟨rfl,rfl⟩)
 go_ret
 exact⟨rfl,rfl⟩
end Go.Proofs
namespace Go.WW
open Go.RowKit
def Pg{α:Type}(F:Fence)(n:Nat)(P:Program)(g:Nat)(lb:Array Value)(encs:α→Array Value)(bs B:Nat)(ok:α→Prop)(S Sp:List α→Prop)(w:World):Prop:=
 ∀(l:Nat) (J Jx:List α→World→Prop) (W:World),Below B w W→
  (∀pre W1 v,J pre W1→J pre (W1.setCell ⟨bs,0,none⟩ v))→
  (∀pre x W1,ok x→J pre W1→YieldAt F (n-1) P l (encs x) W1 fun e W'=>
   (e=.returned (.bool true)∧J (pre++[x]) W'∧Below B W1 W')∨(e=.returned (.bool false)∧Jx (pre++[x]) W'))→
  J [] W→
  CallsIn F n P g (#[.func (.yield l) #[] #[]]++lb) W fun e W'=>(∃v,e=.returned v)∧((∃xs,S xs∧J xs W')∨(∃pre,Sp pre∧Jx pre W'))
def Ph{α:Type}(B:Nat)(I Ix:List α→World→Prop)(xs:List α)(W:World):Exit→Act→World→Prop
 | .normal,_,W'=>KeepsOthers W W'∧Below B W W'∧I xs W'
 | .ret,_,W'=>KeepsOthers W W'∧Ix xs W'
 |_,_,_=>False
variable {F:Fence} {n:Nat} {P:Program}
theorem aaM{α:Type}{g:Operand}{ps:Array Tmp}{assign body:Code}{Q:Exit→Act→World→Prop}{a:Act}{w:World}
  (hro:F.round=none) (h1:1≤n) {gf:Nat} {lb:Array Value} (hg:a.eval g=.func (.func gf) #[] lb) (hFg:F.fn gf) (eg:∀args w,(callFunc gf args).run P w=.ok (.enter gf args) w)
  {encs:α→Array Value} {bs:Nat} {ok:α→Prop} {S Sp:List α→Prop} (hseq:Pg F (n-1) P gf lb encs bs w.heap.size ok S Sp w) (hbs:bs<w.heap.size) (hps:∀x,(encs x).size=ps.size)
  (I Ix:List α→World→Prop) (hI:OwnFrom w.heap.size I) (hIs:∀s W v,I s W→I s (W.setCell ⟨bs,0,none⟩ v)) (hIx:OwnFrom w.heap.size Ix) (h0:I [] w) (a₁:α→Act)
  (hassign:∀(l:Nat) (x:α) (W:World) (K:Act→World→Prop),K (a₁ x) W→
   assign.wpIn (F.inRound l) (n-1-1) P (Exit.then K (fun _ _ _=>False)) {tmps:=(ps.zip (encs x)).foldl (fun t (p,v)=>t.setIfInBounds p v) a.tmps,defers:=[]} W)
  (hbody:∀(l:Nat) (pre:List α) (x:α) (W:World),ok x→I pre W→body.wpIn (F.inRound l) (n-1-1) P (Ph w.heap.size I Ix (pre++[x]) W) (a₁ x) W)
  (hdone:∀(D:Nat) (xs:List α) (W:World),w.heap.size≤D→S xs→I xs W→W.heap[D]?=some (.deferred (some []))→Q .normal {a with defers:={target:=.collected D,args:=#[]}::a.defers} W)
  (hstop:∀(D:Nat) (pre:List α) (W:World),w.heap.size≤D→Sp pre→Ix pre W→W.heap[D]?=some (.deferred (some []))→Code.ret.wpIn F n P Q {a with defers:={target:=.collected D,args:=#[]}::a.defers} W) :
  (Code.rangeFunc g ps assign body).wpIn F n P Q a w:=by
 refine wpIn_rangeFunc ?_
 intro fn hfn
 rw[hro]
 obtain⟨lp,hlp⟩:∃lp:LoopState→Option Code→Loop,lp=fun st pe=>{state:=st,pending:=pe,fn,tmps:=a.tmps,params:=ps,assign,body,defers:=w.heap.size}:=⟨_,rfl⟩
 obtain⟨V,hV⟩:∃V,(w.alloc (.deferred (some []))).alloc (.loop (lp .ready none))=V:=⟨_,rfl⟩
 have hL:V.heap[w.heap.size+1]?=some (.loop (lp .ready none)):=by
  have:=World.alloc_heap_new (w.alloc (.deferred (some []))) (.loop (lp .ready none))
  rw[World.size_alloc,hV]at this;exact this
 have hD:V.heap[w.heap.size]?=some (.deferred (some [])):=by
  rw[←hV];exact(Below.heap_alloc _ _ _ (by simp)).trans (World.alloc_heap_new w _)
 have hB:Below w.heap.size w V:=by
  rw[←hV];exact((Below.refl _ w).alloc (Nat.le_refl _) _).alloc (by simp) _
 refine⟨w.heap.size+1,[{target:=.collected w.heap.size,args:=#[]}],V,{target:=.fn (.func gf) lb,args:=#[.func (.yield (w.heap.size+1)) #[] #[]]},V,gf,
  #[.func (.yield (w.heap.size+1)) #[] #[]]++lb,V,?_,?_,?_,?_,fun _=>h1,?_⟩
 ·rw[←hV,hlp];exact run_enterLoop_outer _ _ _ _ _
 ·simp only[resolve,hg];simp[go_sem]
 ·intro f' hf';simp[Target.leads]at hf';subst hf';exact hFg
 ·simp[invoke,go_sem,eg]
 ·refine(hseq (w.heap.size+1)
   (fun pre W=>I pre W∧W.heap[w.heap.size+1]?=some (.loop (lp .ready none))∧W.heap[w.heap.size]?=some (.deferred (some [])))
   (fun pre W=>Ix pre W∧W.heap[w.heap.size+1]?=some (.loop (lp .done (some .ret)))∧W.heap[w.heap.size]?=some (.deferred (some [])))
   V hB
   (fun pre W1 v hs=>⟨hIs _ _ _ hs.1,(Below.heap_setCell _ _ _ _ (by simp;omega)).trans hs.2.1,(Below.heap_setCell _ _ _ _ (by simp;omega)).trans hs.2.2⟩)
   ?_ ⟨by rw[←hV];exact hI.alloc _ (hI.alloc _ h0),hL,hD⟩).mono ?_
  ·rintro pre x W hx ⟨hi,hl,hk⟩
   have hlt:w.heap.size+1<W.heap.size:=(Array.getElem?_eq_some_iff.1 hl).1
   have hy:=run_yield (P:=P) (args:=encs x) hl (by rw[hlp];exact hps x)
   rw[hlp]at hy
   refine⟨fn,_,assign,body,hy,roundIn_of_wpIn hfn (hassign _ x W _ ⟨_,run_beginRound hl (by rw[hlp]),?_⟩)⟩
   obtain⟨U,hU⟩:∃U,W.putObj (w.heap.size+1) (.loop {lp .ready none with state:=.busy})=U:=⟨_,rfl⟩
   have hl2:U.heap[w.heap.size+1]?=some (.loop {lp .ready none with state:=.busy}):=by rw[←hU];exact World.putObj_heap_same hlt
   have hk2:U.heap[w.heap.size]?=some (.deferred (some [])):=by rw[←hU];exact(World.putObj_heap_other (by omega)).trans hk
   have hw2:Below w.heap.size W U:=by rw[←hU];exact belowK_b (w:=w) (Nat.le_refl _) _ _ _ _ (by omega) hl rfl rfl
   have hi2:I pre U:=by rw[←hU];exact hI.putObj _ hi (by omega) hl rfl
   rw[hU]
   refine wpIn_mono (hbody _ pre x _ hx hi2) ?_
   have over:∀(jump:Option Code) (X:World),KeepsOthers U X→
     (Instr.endRound (w.heap.size+1) jump).run P X=.ok (.bool jump.isNone) (X.putObj (w.heap.size+1) (.loop (lp (if jump.isNone then .ready else .done) jump)))∧
     X.heap[w.heap.size+1]?=some (.loop {lp .ready none with state:=.busy})∧
     (X.putObj (w.heap.size+1) (.loop (lp (if jump.isNone then .ready else .done) jump))).heap[w.heap.size+1]?=some (.loop (lp (if jump.isNone then .ready else .done) jump))∧
     (X.putObj (w.heap.size+1) (.loop (lp (if jump.isNone then .ready else .done) jump))).heap[w.heap.size]?=some (.deferred (some [])):=fun jump X hX=>by
    have hl3:=hX.same _ _ hl2 rfl
    have hr:=run_endRound (P:=P) jump hl3
    rw[hlp]at hr ⊢
    exact⟨hr,by rw[hlp]at hl3;exact hl3,World.putObj_heap_same (Array.getElem?_eq_some_iff.1 hl3).1,(World.putObj_heap_other (by omega)).trans (hX.same _ _ hk2 rfl)⟩
   rintro e a3 X hp
   cases e with
   |normal=>
    obtain⟨hX,hbX,I9⟩:=hp
    obtain⟨hr,hl3,hl4,hk4⟩:=over none X hX
    exact⟨_,_,hr,.inl ⟨rfl,⟨hI.putObj _ I9 (by omega) hl3 rfl,hl4,hk4⟩,(hw2.trans hbX).trans (belowK_b (w:=w) (Nat.le_refl _) _ _ _ _ (by omega) hl3 rfl rfl)⟩⟩
   |ret=>
    obtain⟨hX,I9⟩:=hp
    obtain⟨hr,hl3,hl4,hk4⟩:=over (some .ret) X hX
    exact⟨_,_,hr,.inr ⟨rfl,hIx.putObj _ I9 (by omega) hl3 rfl,hl4,hk4⟩⟩
   |exit id=>exact hp.elim
   |goto t=>exact hp.elim
   |panic ch=>exact hp.elim
   |outgrown=>exact hp.elim
  ·rintro e X ⟨⟨v,rfl⟩,(⟨xs,hS,hi,hl,hk⟩|⟨pre,hSp,hi,hl,hk⟩)⟩
   ·exact⟨none,_,by have:=run_endLoop (P:=P) hl (by rw[hlp];simp);rw[hlp]at this;exact this,hdone _ xs _ (Nat.le_refl _) hS (hI.putObj _ hi (by omega) hl rfl) ((World.putObj_heap_other (by omega)).trans hk)⟩
   ·exact⟨some .ret,_,by have:=run_endLoop (P:=P) hl (by rw[hlp];simp);rw[hlp]at this;exact this,hstop _ pre _ (Nat.le_refl _) hSp (hIx.putObj _ hi (by omega) hl rfl) ((World.putObj_heap_other (by omega)).trans hk)⟩
end Go.WW
namespace Go.WW
def oJ(c:Int):Int:=if 97≤c∧c≤122 then 1 else if 65≤c∧c≤90 then 2 else if 48≤c∧c≤57 then 3 else 0
def vZ(c:Int):Int:=if 97≤c∧c≤122 then 1 else if 65≤c∧c≤90 then 2 else if 48≤c∧c≤57 then 3 else if 32≤c∧c≤126 then 4 else 5
theorem Pj(c:Int):3<vZ c↔oJ c=0:=by
 unfold vZ oJ
 (repeat' split)<;>omega
def o9(c:UInt8):Bool:=!(oJ c.toNat == 0) || (c.toNat:Int) == 45 || (c.toNat:Int) == 95 || (c.toNat:Int) == 46
def mP(s:ByteArray):Bool:=s.data.toList.all o9&&ag s.size 1 32
def eX(p:aO):Bool:=mP p.name&&ag p.length 1 64&&ag p.classes 1 5&&ag p.distinct 0 p.length&&ag p.history 0 16&&ag p.gZ 0 1099511627776&&ag p.dU 0 1099511627776&&(p.dU == 0 || decide (p.gZ≤p.dU))&&ag p.fails 0 1000&&ag p.window 0 1099511627776&&ag p.lock 0 1099511627776
theorem Pm(p:aO)(h:¬mP p.name=true):eX p=false:=by
 have hb:(mP p.name)=false:=by first|exact h|(simpa using h)|(simp;omega)
 simp only[eX,hb,Bool.false_and]
theorem Pn(p:aO)(h:¬ag p.length 1 64=true):eX p=false:=by
 have hb:(ag p.length 1 64)=false:=by first|exact h|(simpa using h)|(simp;omega)
 simp only[eX,hb,Bool.false_and,Bool.and_false]
theorem Po(p:aO)(h:¬ag p.classes 1 5=true):eX p=false:=by
 have hb:(ag p.classes 1 5)=false:=by first|exact h|(simpa using h)|(simp;omega)
 simp only[eX,hb,Bool.false_and,Bool.and_false]
theorem Pq(p:aO)(h:¬ag p.distinct 0 p.length=true):eX p=false:=by
 have hb:(ag p.distinct 0 p.length)=false:=by first|exact h|(simpa using h)|(simp;omega)
 simp only[eX,hb,Bool.false_and,Bool.and_false]
theorem Pv(p:aO)(h:¬ag p.history 0 16=true):eX p=false:=by
 have hb:(ag p.history 0 16)=false:=by first|exact h|(simpa using h)|(simp;omega)
 simp only[eX,hb,Bool.false_and,Bool.and_false]
theorem Px(p:aO)(h:¬ag p.gZ 0 1099511627776=true):eX p=false:=by
 have hb:(ag p.gZ 0 1099511627776)=false:=by first|exact h|(simpa using h)|(simp;omega)
 simp only[eX,hb,Bool.false_and,Bool.and_false]
theorem Py(p:aO)(h:¬ag p.dU 0 1099511627776=true):eX p=false:=by
 have hb:(ag p.dU 0 1099511627776)=false:=by first|exact h|(simpa using h)|(simp;omega)
 simp only[eX,hb,Bool.false_and,Bool.and_false]
theorem Pz(p:aO)(h:¬((p.dU == 0)=true∨p.gZ≤p.dU)):eX p=false:=by
 have hb:(p.dU == 0 || decide (p.gZ≤p.dU))=false:=by first|exact h|(simpa using h)|(simp;omega)
 simp only[eX,hb,Bool.false_and,Bool.and_false]
theorem Ja(p:aO)(h:¬ag p.fails 0 1000=true):eX p=false:=by
 have hb:(ag p.fails 0 1000)=false:=by first|exact h|(simpa using h)|(simp;omega)
 simp only[eX,hb,Bool.false_and,Bool.and_false]
theorem Jb(p:aO)(h:¬ag p.window 0 1099511627776=true):eX p=false:=by
 have hb:(ag p.window 0 1099511627776)=false:=by first|exact h|(simpa using h)|(simp;omega)
 simp only[eX,hb,Bool.false_and,Bool.and_false]
theorem aaN(p:aO)(h:¬ag p.lock 0 1099511627776=true):eX p=false:=by
 have hb:(ag p.lock 0 1099511627776)=false:=by first|exact h|(simpa using h)|(simp;omega)
 simp only[eX,hb,Bool.and_false]
theorem Eg(p:aO)(h1:mP p.name=true)(h2:ag p.length 1 64=true)(h3:ag p.classes 1 5=true)(h4:ag p.distinct 0 p.length=true)(h5:ag p.history 0 16=true)(h6:ag p.gZ 0 1099511627776=true)(h7:ag p.dU 0 1099511627776=true)(h8:(p.dU == 0)=true∨p.gZ≤p.dU)(h9:ag p.fails 0 1000=true)(h10:ag p.window 0 1099511627776=true):eX p=(ag p.lock 0 1099511627776):=by
 have e1:(mP p.name)=true:=by first|exact h1|(simpa using h1)|(simp;omega)
 have e2:(ag p.length 1 64)=true:=by first|exact h2|(simpa using h2)|(simp;omega)
 have e3:(ag p.classes 1 5)=true:=by first|exact h3|(simpa using h3)|(simp;omega)
 have e4:(ag p.distinct 0 p.length)=true:=by first|exact h4|(simpa using h4)|(simp;omega)
 have e5:(ag p.history 0 16)=true:=by first|exact h5|(simpa using h5)|(simp;omega)
 have e6:(ag p.gZ 0 1099511627776)=true:=by first|exact h6|(simpa using h6)|(simp;omega)
 have e7:(ag p.dU 0 1099511627776)=true:=by first|exact h7|(simpa using h7)|(simp;omega)
 have e8:(p.dU == 0 || decide (p.gZ≤p.dU))=true:=by first|exact h8|(simpa using h8)|(simp;omega)
 have e9:(ag p.fails 0 1000)=true:=by first|exact h9|(simpa using h9)|(simp;omega)
 have e10:(ag p.window 0 1099511627776)=true:=by first|exact h10|(simpa using h10)|(simp;omega)
 simp only[eX,e1,e2,e3,e4,e5,e6,e7,e8,e9,e10,Bool.true_and]
theorem PD(p:aO)(h1:mP p.name=true)(h2:ag p.length 1 64=true)(h3:ag p.classes 1 5=true)(h4:ag p.distinct 0 p.length=true)(h5:ag p.history 0 16=true)(h6:ag p.gZ 0 1099511627776=true)(h7:ag p.dU 0 1099511627776=true)(h8:p.dU=0∨p.gZ≤p.dU)(h9:ag p.fails 0 1000=true)(h10:ag p.window 0 1099511627776=true):eX p=ag p.lock 0 1099511627776:=
 Eg p h1 h2 h3 h4 h5 h6 h7 (h8.imp (fun h=>by simpa using h) id) h9 h10
theorem PG(p:aO)(h:¬p.dU=0)(h':p.dU<p.gZ):eX p=false:=Pz p (by simp only[beq_iff_eq];omega)
theorem PH{c:UInt8}(h:oJ c.toNat=0)(h1:¬(c.toNat:Int)=45)(h2:¬(c.toNat:Int)=95)(h3:¬(c.toNat:Int)=46):o9 c=false:=by simp[o9,h];omega
theorem PI{c:UInt8}(h:¬oJ c.toNat=0):o9 c=true:=by simp[o9,h]
theorem yu{c:UInt8}(h:(c.toNat:Int)=45∨(c.toNat:Int)=95∨(c.toNat:Int)=46):o9 c=true:=by simp[o9];omega
theorem PK{s:ByteArray}(k:Nat)(hk:k<s.size)(h:o9 s[k]=false):mP s=false:=by rw[mP,vT s k hk h];rfl
theorem PL{s:ByteArray}(k:Nat)(hk:s.size≤k)(h:(s.data.toList.take k).all o9=true):mP s=ag s.size 1 32:=by rw[mP,vU s k hk h];rfl
end Go.WW
namespace Go.Proofs.YtibhckkjciflaaaGreatDoor
open Go.RowKit Go.WW
theorem letter_c(c:Int)(w:World):Calls Tryz.prog 145 #[.int .u8 c] w fun e w'=>e=.returned (.int .i64 (oJ c))∧w=w':=by
 rcases(show(97≤c∧c≤122)∨(65≤c∧c≤90)∨(48≤c∧c≤57)∨c<48∨(57<c∧c<65)∨(90<c∧c<97)∨122<c by omega)with⟨h1,h2⟩|⟨h1,h2⟩|⟨h1,h2⟩|h1|⟨h1,h2⟩|⟨h1,h2⟩|h1
 all_goals
  obtain⟨n,hn⟩:∃n,oJ c=n:=⟨_,rfl⟩
  have hn':=hn
  unfold oJ at hn'
  repeat (first|rw[if_pos (by omega)]at hn'|rw[if_neg (by omega)]at hn')
  subst hn'
  have HN:=Lib.hid hn
  clear hn
  go_enter Tryz.func145,Tryz.ntmps145
  go_wp2
  go_ret
  exact⟨by rw[HN.out];rfl,rfl⟩
theorem AL(c:Int)(w:World):Calls Tryz.prog 142 #[.int .u8 c] w fun e w'=>e=.returned (.int .i64 (vZ c))∧w=w':=by
 rcases(show(97≤c∧c≤122)∨(65≤c∧c≤90)∨(48≤c∧c≤57)∨c<32∨(32≤c∧c<48)∨(57<c∧c<65)∨(90<c∧c<97)∨(122<c∧c≤126)∨126<c by omega)with⟨h1,h2⟩|⟨h1,h2⟩|⟨h1,h2⟩|h1|⟨h1,h2⟩|⟨h1,h2⟩|⟨h1,h2⟩|⟨h1,h2⟩|h1
 all_goals
  obtain⟨n,hn⟩:∃n,vZ c=n:=⟨_,rfl⟩
  have hn':=hn
  unfold vZ at hn'
  repeat (first|rw[if_pos (by omega)]at hn'|rw[if_neg (by omega)]at hn')
  subst hn'
  have HN:=Lib.hid hn
  clear hn
  go_enter Tryz.func142,Tryz.ntmps142
  go_wp2
  go_ret
  exact⟨by rw[HN.out];rfl,rfl⟩
theorem aaO(s:ByteArray)(w:World)(hs:s.size≤lim):Calls Tryz.prog 94 #[.string s] w fun e w'=>e=.returned (.bool (mP s))∧w=w':=by
 have hs':s.size≤4294967000:=hs
 go_enter Tryz.func94,Tryz.ntmps94
 go_wp2
 go_loop [3] (fun i=>∃k:Nat,k≤s.size∧i=.int .i64 k∧Hid ((s.data.toList.take k).all o9=true)) (fun i=>s.size-(intOf i).toNat)
 case atStart=>exact⟨0,Nat.zero_le _,rfl,by simp[Hid]⟩
 case round=>
  obtain⟨k,hk,rfl,hall⟩:=hrel
  by_cases hlt:k<s.size
  ·by_cases hz:oJ s[k].toNat=0
   ·have hz':(oJ s[k].toNat == 0)=true:=by simp[hz]
    by_cases c1:(s[k].toNat:Int)=45
    ·have b1:((s[k].toNat:Int) != 45)=false:=by simp[c1]
     have HS:=Lib.hid (lL s k hlt hall.out (yu (.inl c1)))
     clear c1 hz
     go_wp2_with (go_at_call 145;refine(letter_c _ _).mono ?_;rintro e w' ⟨rfl,rfl⟩)
     go_round
     case rel=>exact⟨k+1,by omega,by go_num,HS.out⟩
     case measure=>simp[intOf];omega
    ·have b1:((s[k].toNat:Int) != 45)=true:=by simp[c1]
     by_cases c2:(s[k].toNat:Int)=95
     ·have b2:((s[k].toNat:Int) != 95)=false:=by simp[c2]
      have HS:=Lib.hid (lL s k hlt hall.out (yu (.inr (.inl c2))))
      clear c1 c2 hz
      go_wp2_with (go_at_call 145;refine(letter_c _ _).mono ?_;rintro e w' ⟨rfl,rfl⟩)
      go_round
      case rel=>exact⟨k+1,by omega,by go_num,HS.out⟩
      case measure=>simp[intOf];omega
     ·have b2:((s[k].toNat:Int) != 95)=true:=by simp[c2]
      by_cases c3:(s[k].toNat:Int)=46
      ·have b3:((s[k].toNat:Int) != 46)=false:=by simp[c3]
       have HS:=Lib.hid (lL s k hlt hall.out (yu (.inr (.inr c3))))
       clear c1 c2 c3 hz
       go_wp2_with (go_at_call 145;refine(letter_c _ _).mono ?_;rintro e w' ⟨rfl,rfl⟩)
       go_round
       case rel=>exact⟨k+1,by omega,by go_num,HS.out⟩
       case measure=>simp[intOf];omega
      ·have b3:((s[k].toNat:Int) != 46)=true:=by simp[c3]
       have HS:=Lib.hid (PK k hlt (PH hz c1 c2 c3))
       clear c1 c2 c3 hz
       go_wp2_with (go_at_call 145;refine(letter_c _ _).mono ?_;rintro e w' ⟨rfl,rfl⟩)
       go_ret
       exact⟨by rw[HS.out];rfl,rfl⟩
   ·have HS:=Lib.hid (lL s k hlt hall.out (PI hz))
    have hz':(oJ s[k].toNat == 0)=false:=by simp[hz]
    clear hz
    go_wp2_with (go_at_call 145;refine(letter_c _ _).mono ?_;rintro e w' ⟨rfl,rfl⟩)
    go_round
    case rel=>exact⟨k+1,by omega,by go_num,HS.out⟩
    case measure=>simp[intOf];omega
  ·have HE:=Lib.hid (PL k (by omega) hall.out)
   go_wp2_with (go_at_call 95;refine(OM _ _ _ _).mono ?_;rintro e w' ⟨rfl,rfl⟩)
   go_ret
   exact⟨by rw[HE.out];rfl,rfl⟩
theorem aaP(s:ByteArray)(w:World)(hs:s.size≤lim):Calls Tryz.prog 88 #[.string s] w fun e w'=>e=.returned (.bool (mP s))∧w=w':=by
 have hs':s.size≤4294967000:=hs
 go_enter Tryz.func88,Tryz.ntmps88
 go_wp2
 go_loop [7] (fun i=>∃k:Nat,k≤s.size∧i=.int .i64 k∧Hid ((s.data.toList.take k).all o9=true)) (fun i=>s.size-(intOf i).toNat)
 case atStart=>exact⟨0,Nat.zero_le _,rfl,by simp[Hid]⟩
 case round=>
  obtain⟨k,hk,rfl,hall⟩:=hrel
  by_cases hlt:k<s.size
  ·by_cases hz:oJ s[k].toNat=0
   ·have hz':decide (3<vZ s[k].toNat)=true:=by simpa using(Pj _).2 hz
    by_cases c1:(s[k].toNat:Int)=45
    ·have b1:((s[k].toNat:Int) != 45)=false:=by simp[c1]
     have HS:=Lib.hid (lL s k hlt hall.out (yu (.inl c1)))
     clear c1 hz
     go_wp2_with (go_at_call 142;refine(AL _ _).mono ?_;rintro e w' ⟨rfl,rfl⟩)
     go_round
     case rel=>exact⟨k+1,by omega,by go_num,HS.out⟩
     case measure=>simp[intOf];omega
    ·have b1:((s[k].toNat:Int) != 45)=true:=by simp[c1]
     by_cases c2:(s[k].toNat:Int)=95
     ·have b2:((s[k].toNat:Int) != 95)=false:=by simp[c2]
      have HS:=Lib.hid (lL s k hlt hall.out (yu (.inr (.inl c2))))
      clear c1 c2 hz
      go_wp2_with (go_at_call 142;refine(AL _ _).mono ?_;rintro e w' ⟨rfl,rfl⟩)
      go_round
      case rel=>exact⟨k+1,by omega,by go_num,HS.out⟩
      case measure=>simp[intOf];omega
     ·have b2:((s[k].toNat:Int) != 95)=true:=by simp[c2]
      by_cases c3:(s[k].toNat:Int)=46
      ·have b3:((s[k].toNat:Int) != 46)=false:=by simp[c3]
       have HS:=Lib.hid (lL s k hlt hall.out (yu (.inr (.inr c3))))
       clear c1 c2 c3 hz
       go_wp2_with (go_at_call 142;refine(AL _ _).mono ?_;rintro e w' ⟨rfl,rfl⟩)
       go_round
       case rel=>exact⟨k+1,by omega,by go_num,HS.out⟩
       case measure=>simp[intOf];omega
      ·have b3:((s[k].toNat:Int) != 46)=true:=by simp[c3]
       have HS:=Lib.hid (PK k hlt (PH hz c1 c2 c3))
       clear c1 c2 c3 hz
       go_wp2_with (go_at_call 142;refine(AL _ _).mono ?_;rintro e w' ⟨rfl,rfl⟩)
       go_ret
       exact⟨by rw[HS.out];rfl,rfl⟩
   ·have HS:=Lib.hid (lL s k hlt hall.out (PI hz))
    have hz':decide (3<vZ s[k].toNat)=false:=by simpa using mt (Pj _).1 hz
    clear hz
    go_wp2_with (go_at_call 142;refine(AL _ _).mono ?_;rintro e w' ⟨rfl,rfl⟩)
    go_round
    case rel=>exact⟨k+1,by omega,by go_num,HS.out⟩
    case measure=>simp[intOf];omega
  ·have HE:=Lib.hid (PL k (by omega) hall.out)
   go_wp2_with (go_at_call 87;refine(tZ _ _ _ _).mono ?_;rintro e w' ⟨rfl,rfl⟩)
   go_ret
   exact⟨by rw[HE.out];rfl,rfl⟩
theorem yw(v:Int)(w:World):Calls Tryz.prog 86 #[.int .i64 v] w fun e w'=>e=.returned (.bool (ag v 0 1099511627776))∧w=w':=by
 go_enter Tryz.func86,Tryz.ntmps86
 go_wp2_with (go_at_call 87;refine(tZ _ _ _ _).mono ?_;rintro e w' ⟨rfl,rfl⟩)
 go_ret
 exact⟨rfl,rfl⟩
theorem aaQ(p:aO)(w:World)(hs:p.name.size≤lim):Calls Tryz.prog 37 #[.agg (bZ p)] w fun e w'=>e=.returned (.bool (eX p))∧Below w.heap.size w w':=by
 go_enter Tryz.func37,Tryz.ntmps37
 go_wp2_with (first|(go_at_call 94;refine(aaO _ _ hs).mono ?_;rintro e w' ⟨rfl,rfl⟩)|(go_at_call 95;refine(OM _ _ _ _).mono ?_;rintro e w' ⟨rfl,rfl⟩))
 all_goals go_ret
 all_goals exact⟨by first|(rw[Pm p ‹_›];rfl)|(rw[Pn p ‹_›];rfl)|(rw[Po p ‹_›];rfl)|(rw[Pq p ‹_›];rfl)|(rw[Pv p ‹_›];rfl)|(rw[Px p ‹_›];rfl)|(rw[Py p ‹_›];rfl)|(rw[Pz p ‹_›];rfl)|(rw[Ja p ‹_›];rfl)|(rw[Jb p ‹_›];rfl)|(rw[aaN p ‹_›];rfl)|(rw[Eg p ‹_› ‹_› ‹_› ‹_› ‹_› ‹_› ‹_› ‹_› ‹_› ‹_›];rfl)|(rw[PD p ‹_› ‹_› ‹_› ‹_› ‹_› ‹_› ‹_› (.inl ‹p.dU=0›) ‹_› ‹_›];rfl)|(rw[PD p ‹_› ‹_› ‹_› ‹_› ‹_› ‹_› ‹_› (.inr ‹p.gZ≤p.dU›) ‹_› ‹_›];rfl)|(rw[PG p ‹_› ‹_›];rfl),(Below.refl _ _).alloc (Nat.le_refl _) _⟩
theorem PM(p:aO)(w:World)(hs:p.name.size≤lim):Calls Tryz.prog 31 #[.agg (bZ p)] w fun e w'=>e=.returned (.bool (eX p))∧Below w.heap.size w w':=by
 go_enter Tryz.func31,Tryz.ntmps31
 go_wp2_with fail
 refine(aaP _ _ hs).mono ?_
 rintro e w' ⟨rfl,rfl⟩
 cases h1:mP p.name
 ·have HN:=Lib.hid (Pm p (by simp[h1]))
  go_wp2_with fail
  all_goals go_ret
  all_goals exact⟨by rw[HN.out];rfl,(Below.refl _ _).alloc (Nat.le_refl _) _⟩
 go_wp2_with fail
 refine(tZ _ _ _ _).mono ?_
 rintro e w' ⟨rfl,rfl⟩
 cases h2:ag p.length 1 64
 ·have HN:=Lib.hid (Pn p (by simp[h2]))
  go_wp2_with fail
  all_goals go_ret
  all_goals exact⟨by rw[HN.out];rfl,(Below.refl _ _).alloc (Nat.le_refl _) _⟩
 go_wp2_with fail
 refine(tZ _ _ _ _).mono ?_
 rintro e w' ⟨rfl,rfl⟩
 cases h3:ag p.classes 1 5
 ·have HN:=Lib.hid (Po p (by simp[h3]))
  go_wp2_with fail
  all_goals go_ret
  all_goals exact⟨by rw[HN.out];rfl,(Below.refl _ _).alloc (Nat.le_refl _) _⟩
 go_wp2_with fail
 refine(tZ _ _ _ _).mono ?_
 rintro e w' ⟨rfl,rfl⟩
 cases h4:ag p.distinct 0 p.length
 ·have HN:=Lib.hid (Pq p (by simp[h4]))
  go_wp2_with fail
  all_goals go_ret
  all_goals exact⟨by rw[HN.out];rfl,(Below.refl _ _).alloc (Nat.le_refl _) _⟩
 go_wp2_with fail
 refine(tZ _ _ _ _).mono ?_
 rintro e w' ⟨rfl,rfl⟩
 cases h5:ag p.history 0 16
 ·have HN:=Lib.hid (Pv p (by simp[h5]))
  go_wp2_with fail
  all_goals go_ret
  all_goals exact⟨by rw[HN.out];rfl,(Below.refl _ _).alloc (Nat.le_refl _) _⟩
 go_wp2_with fail
 refine(yw _ _).mono ?_
 rintro e w' ⟨rfl,rfl⟩
 cases h6:ag p.gZ 0 1099511627776
 ·have HN:=Lib.hid (Px p (by simp[h6]))
  go_wp2_with fail
  all_goals go_ret
  all_goals exact⟨by rw[HN.out];rfl,(Below.refl _ _).alloc (Nat.le_refl _) _⟩
 go_wp2_with fail
 refine(yw _ _).mono ?_
 rintro e w' ⟨rfl,rfl⟩
 cases h7:ag p.dU 0 1099511627776
 ·have HN:=Lib.hid (Py p (by simp[h7]))
  go_wp2_with fail
  all_goals go_ret
  all_goals exact⟨by rw[HN.out];rfl,(Below.refl _ _).alloc (Nat.le_refl _) _⟩
 by_cases hz:p.dU=0
 ·have hz':(p.dU == 0)=true:=by simp[hz]
  have h8:(p.dU == 0)=true∨p.gZ≤p.dU:=.inl hz'
  clear hz
  go_wp2_with fail
  refine(tZ _ _ _ _).mono ?_
  rintro e w' ⟨rfl,rfl⟩
  cases h9:ag p.fails 0 1000
  ·have HN:=Lib.hid (Ja p (by simp[h9]))
   go_wp2_with fail
   all_goals go_ret
   all_goals exact⟨by rw[HN.out];rfl,(Below.refl _ _).alloc (Nat.le_refl _) _⟩
  go_wp2_with fail
  refine(yw _ _).mono ?_
  rintro e w' ⟨rfl,rfl⟩
  cases h10:ag p.window 0 1099511627776
  ·have HN:=Lib.hid (Jb p (by simp[h10]))
   go_wp2_with fail
   all_goals go_ret
   all_goals exact⟨by rw[HN.out];rfl,(Below.refl _ _).alloc (Nat.le_refl _) _⟩
  go_wp2_with fail
  refine(yw _ _).mono ?_
  rintro e w' ⟨rfl,rfl⟩
  have HN:=Lib.hid (Eg p h1 h2 h3 h4 h5 h6 h7 h8 h9 h10)
  go_wp2_with fail
  all_goals go_ret
  all_goals exact⟨by rw[HN.out];rfl,(Below.refl _ _).alloc (Nat.le_refl _) _⟩
 have hz':(p.dU == 0)=false:=by simp[hz]
 by_cases hm:p.gZ≤p.dU
 ·have h8:(p.dU == 0)=true∨p.gZ≤p.dU:=.inr hm
  clear hz
  go_wp2_with fail
  refine(tZ _ _ _ _).mono ?_
  rintro e w' ⟨rfl,rfl⟩
  cases h9:ag p.fails 0 1000
  ·have HN:=Lib.hid (Ja p (by simp[h9]))
   go_wp2_with fail
   all_goals go_ret
   all_goals exact⟨by rw[HN.out];rfl,(Below.refl _ _).alloc (Nat.le_refl _) _⟩
  go_wp2_with fail
  refine(yw _ _).mono ?_
  rintro e w' ⟨rfl,rfl⟩
  cases h10:ag p.window 0 1099511627776
  ·have HN:=Lib.hid (Jb p (by simp[h10]))
   go_wp2_with fail
   all_goals go_ret
   all_goals exact⟨by rw[HN.out];rfl,(Below.refl _ _).alloc (Nat.le_refl _) _⟩
  go_wp2_with fail
  refine(yw _ _).mono ?_
  rintro e w' ⟨rfl,rfl⟩
  have HN:=Lib.hid (Eg p h1 h2 h3 h4 h5 h6 h7 h8 h9 h10)
  go_wp2_with fail
  all_goals go_ret
  all_goals exact⟨by rw[HN.out];rfl,(Below.refl _ _).alloc (Nat.le_refl _) _⟩
 have HN:=Lib.hid (PG p hz (by omega))
 clear hz
 go_wp2_with fail
 all_goals go_ret
 all_goals exact⟨by rw[HN.out];rfl,(Below.refl _ _).alloc (Nat.le_refl _) _⟩
end Go.Proofs.YtibhckkjciflaaaGreatDoor
namespace Go.WW
open Go.RowKit
inductive Split:ByteArray→List ByteArray→Prop
 |last (s:ByteArray) (h:Lib.indexByte s.data.toList 46<0):Split s [s]
 |more (s:ByteArray) (k:Nat) (ys:List ByteArray) (h:Lib.indexByte s.data.toList 46=(k:Int)) (hk:k<s.size) (t:Split (s.extract (k+1) s.size) ys):Split s (s.extract 0 k::ys)
def Jc(w:World)(b:Nat):Nat:=match w.cell? ⟨b,0,none⟩with|some (.string s)=>s.size|_=>0
theorem PN{w:World}{b:Nat}{s:ByteArray}(h:w.cell? ⟨b,0,none⟩=some (.string s)):Jc w b=s.size:=by unfold Jc;rw[h]
theorem Jd(s:ByteArray):Lib.indexByte s.data.toList 46=-1∨∃k:Nat,Lib.indexByte s.data.toList 46=(k:Int)∧k<s.size:=by
 have:∀l:List UInt8,Lib.indexByte l 46=-1∨∃k:Nat,Lib.indexByte l 46=(k:Int)∧k<l.length:=by
  intro l
  induction l with
  |nil=>left;rfl
  |cons b l ih=>
   unfold Lib.indexByte
   by_cases hb:(b == 46)=true
   ·right;exact⟨0,by simp[hb],by simp⟩
   ·rcases ih with h|⟨k,h,hk⟩
    ·left;simp[hb,h]
    ·right;refine⟨k+1,?_,by simp;omega⟩
     have:¬((k:Int)=-1):=by omega
     simp[hb,h,this]
 simpa using this s.data.toList
theorem aaR(n:Nat):∀s:ByteArray,s.size≤n→∃ys,Split s ys:=by
 induction n with
 |zero=>
  intro s h
  rcases Jd s with hi|⟨k,hi,hk⟩
  ·exact⟨_,.last s (by rw[hi];decide)⟩
  ·omega
 |succ n ih=>
  intro s h
  rcases Jd s with hi|⟨k,hi,hk⟩
  ·exact⟨_,.last s (by rw[hi];decide)⟩
  ·obtain⟨ys,hys⟩:=ih (s.extract (k+1) s.size) (by simp;omega)
   exact⟨_,.more s k ys hi hk hys⟩
end Go.WW
namespace Go.Proofs.YtibhckkjciflaaaGreatDoor
open Go.RowKit Go.WW
attribute [local go_sem] Oper.semAt_some
theorem aaS(n:Nat)(hn:1≤n)(m B:Nat)(s:ByteArray)(hs:s.size≤lim)(w:World)(hB:m+2<B)
 (hc0:w.cell? ⟨m,0,none⟩=some (.string s)) (hc1:w.cell? ⟨m+1,0,none⟩=some (.string ⟨#[46]⟩)) (hc2:w.cell? ⟨m+2,0,none⟩=some (.int .i64 0)) (hf:w.frozen? ⟨m,0,none⟩=false) :
 Pg Fence.wide n Tryz.prog 210 #[.pointer (some ⟨m+1,0,none⟩),.pointer (some ⟨m,0,none⟩),.pointer (some ⟨m+2,0,none⟩)] (fun x:ByteArray=>#[.string x]) m B (fun x=>x.size≤lim) (Split s) (fun pre=>∃ys,Split s (pre++ys)) w:=by
 intro l J Jx W hW hJs hY h0
 have hs':s.size≤4294967000:=hs
 refine callsIn_of_wp Tryz.func210 rfl trivial ?_ rfl
 simp only[Tryz.ntmps210,List.size_toArray,List.length_cons,List.length_nil,Nat.reduceAdd,Nat.reduceSub,Array.replicate_succ,Array.replicate_zero,List.push_toArray,List.append_toArray,List.nil_append,List.cons_append]
 have hd1:W.cell? ⟨m+1,0,none⟩=some (.string ⟨#[46]⟩):=(hW.cell (p:=⟨m+1,0,none⟩) (by simp;omega)).trans hc1
 gi_wp2
 have hfW:W.frozen? ⟨m,0,none⟩=false:=(hW.frozen (p:=⟨m,0,none⟩) (by simp;omega)).trans hf
 gi_loopw [] (fun wr=>∃(pre:List ByteArray) (r:ByteArray),wr.cell? ⟨m,0,none⟩=some (.string r)∧wr.frozen? ⟨m,0,none⟩=false∧wr.cell? ⟨m+1,0,none⟩=some (.string ⟨#[46]⟩)∧wr.cell? ⟨m+2,0,none⟩=some (.int .i64 0)∧J pre wr∧r.size≤s.size∧∀ys,Split r ys→Split s (pre++ys)) (fun wr=>Jc wr m)
 case atStart=>exact⟨[],s,(hW.cell (p:=⟨m,0,none⟩) (by simp;omega)).trans hc0,hfW,hd1,(hW.cell (p:=⟨m+2,0,none⟩) (by simp;omega)).trans hc2,h0,Nat.le_refl _,fun ys h=>h⟩
 case round=>
  obtain⟨pre,r,h1,hf1,h2,h3,hJ,hrs,hsp⟩:=hrel
  rcases Jd r with hi|⟨k,hi,hk⟩
  ·obtain⟨fn,tmps,assign,body,hy,hR⟩:=hY pre r wr (by unfold lim;omega) hJ
   gi_wp2_with (refine⟨trivial,?_⟩;gi_at_call 212;refine(callsIn_wide.2 (Tryz.strings_Index_one _ _ _)).mono ?_;rintro e w' ⟨rfl,rfl⟩;rw[hi])
   refine hR.mono ?_
   have hS:Split s (pre++[r]):=hsp _ (.last r (by rw[hi];decide))
   rintro e W3 (⟨rfl,hJ3,hk3⟩|⟨rfl,hJx3⟩)
   ·gi_wp2
    go_end0
    exact⟨⟨_,rfl⟩,.inl ⟨_,hS,hJ3⟩⟩
   ·gi_wp2
    go_end0
    exact⟨⟨_,rfl⟩,.inr ⟨_,⟨[],by simpa using hS⟩,hJx3⟩⟩
  ·have hk':k≤r.size:=by omega
   have hr':r.size≤4294967000:=by omega
   obtain⟨fn,tmps,assign,body,hy,hR⟩:=hY pre (r.extract 0 k) wr (by unfold lim;simp;omega) hJ
   gi_wp2_with (refine⟨trivial,?_⟩;gi_at_call 212;refine(callsIn_wide.2 (Tryz.strings_Index_one _ _ _)).mono ?_;rintro e w' ⟨rfl,rfl⟩;rw[hi])
   refine hR.mono ?_
   rintro e W3 (⟨rfl,hJ3,hk3⟩|⟨rfl,hJx3⟩)
   ·have g1:=(hk3.cell (p:=⟨m,0,none⟩) (by simp;omega)).trans h1
    have g2:=(hk3.cell (p:=⟨m+1,0,none⟩) (by simp;omega)).trans h2
    have g3:=(hk3.cell (p:=⟨m+2,0,none⟩) (by simp;omega)).trans h3
    have gf:=(hk3.frozen (p:=⟨m,0,none⟩) (by simp;omega)).trans hf1
    gi_wp2
    go_roundw
    case rel=>
     refine⟨pre++[r.extract 0 k],r.extract (k+1) r.size,World.cell?_setCell_same' _ _ _ (by rw[g1];rfl),by rw[World.frozen?_setCell];exact gf,?_,?_,hJs _ _ _ hJ3,?_,?_⟩
     ·rw[World.cell?_setCell_other _ _ _ _ (by simp)];exact g2
     ·rw[World.cell?_setCell_other _ _ _ _ (by simp)];exact g3
     ·simp;omega
     ·intro ys hy;rw[List.append_assoc];exact hsp _ (.more r k ys hi hk hy)
    case measure=>
     rw[PN (World.cell?_setCell_same' _ _ _ (by rw[g1];rfl)),PN h1]
     simp;omega
   ·gi_wp2
    refine bodyPost_ret (results_none rfl _ _ _) rfl ?_
    obtain⟨ys,hys⟩:=aaR (r.extract (k+1) r.size).size _ (Nat.le_refl _)
    exact⟨⟨_,rfl⟩,.inr ⟨_,⟨ys,by rw[List.append_assoc];exact hsp _ (.more r k ys hi hk hys)⟩,hJx3⟩⟩
end Go.Proofs.YtibhckkjciflaaaGreatDoor
