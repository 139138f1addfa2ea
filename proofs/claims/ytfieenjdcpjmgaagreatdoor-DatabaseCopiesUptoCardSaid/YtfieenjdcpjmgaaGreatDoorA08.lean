/- A part of the proof. -/
import Derived.Test.YtfieenjdcpjmgaaGreatDoorA07
import Derived.RangeFuncOwn
import Derived.Test.YtfieenjdcpjmgaaGreatDoorRows
import Derived.Deep.Slices
import Derived.ChangeArms
import Derived.ProofKit
import Derived.OpenShut
set_option maxRecDepth 100000
set_option maxHeartbeats 8000000
namespace Go.WW
def CP(x:bn):Bool:=decide (0<x.dH) || x.df.toList.isEmpty
theorem aeK{x:bn}(h1:aB x.version 1 65535=true)(h2:aB x.keys.length 1 4=true):iR x=(decide ((x.df.size:Int)≤256)&&aB x.dH 0 65536&&CP x&&aB x.created 0 1099511627776):=by
 rw[iR,h1,h2,CP];rfl
end Go.WW
namespace Go.Proofs.YtfieenjdcpjmgaaGreatDoor
open Go.RowKit Go.WW
theorem aeL(s:Sl)(x:bn)(m:Int)(w:World)(hx:jq w s x):Calls Tryz.prog 202 #[.agg (aZ s x),.int .i64 m] w fun e w'=>e=.returned (.bool (gV m x))∧Below w.heap.size w w':=by
 have hn:x.keys.length≤4294967000:=hx.1.1
 have hs:x.df.size≤4294967000:=hx.2
 have hB:Below w.heap.size w ((w.alloc (.cells (aZ s x) 67)).alloc (.cells #[.int .i64 m] 3)):=((Below.refl _ w).alloc (Nat.le_refl _) _).alloc (by simp) _
 have SH:=hx.later hB
 have g0:((w.alloc (.cells (aZ s x) 67)).alloc (.cells #[.int .i64 m] 3)).cell? ⟨w.heap.size,0,none⟩=some (.int .i64 x.version):=by simp[go_sem]
 have g1:((w.alloc (.cells (aZ s x) 67)).alloc (.cells #[.int .i64 m] 3)).cell? ⟨w.heap.size+1,0,none⟩=some (.int .i64 m):=by simp[go_sem]
 have hlim:∀k∈x.keys,k.bytes.length≤lim:=fun k hk=>by
  obtain⟨i,hi,rfl⟩:=List.mem_iff_getElem.1 hk
  obtain⟨_,_,_,_,_,h3⟩:=hx.1.get i hi
  exact h3.1
 have HF:=Lib.hid (adN s.a s.cap 278 4 x.keys w.heap.size (w.heap.size+1) (iF m x.version) _ aew SH.1 (fun y t p hp _=>aev t p _ _ m x.version y.w (hlim p hp) ((y.b.cell (p:=⟨w.heap.size,0,none⟩) (by simp;omega)).trans g0) ((y.b.cell (p:=⟨w.heap.size+1,0,none⟩) (by simp)).trans g1)))
 have HL:=Lib.hid hlim
 clear g0 g1 hlim
 go_enter Tryz.func202,Tryz.ntmps202
 cases c1:aB x.version 1 65535
 ·have HN:=Lib.hid (aep (m:=m) c1)
  go_wp2_with (go_at_call 118;refine(uN _ _ _ _).mono ?_;rintro e w' ⟨rfl,rfl⟩)
  go_ret
  exact⟨by rw[HN.out];rfl,hB⟩
 cases c2:decide (1≤(x.keys.length:Int))
 ·have HN:=Lib.hid (aeq (m:=m) c2)
  have c2':decide (1≤x.keys.length)=false:=by rw[decide_eq_false_iff_not]at c2 ⊢;omega
  go_wp2_with (go_at_call 118;refine(uN _ _ _ _).mono ?_;rintro e w' ⟨rfl,rfl⟩)
  go_ret
  exact⟨by rw[HN.out];rfl,hB⟩
 have c2':decide (1≤x.keys.length)=true:=by rw[decide_eq_true_eq]at c2 ⊢;omega
 go_wp2_with (go_at_call 118;refine(uN _ _ _ _).mono ?_;rintro e w' ⟨rfl,rfl⟩)
 refine(HF.out).mono ?_
 rintro e w1 ⟨rfl,hb1⟩
 have hB1:=ag hB hb1
 obtain⟨hcc,aS,hrr⟩:=aY hb1
 have hsz:w.heap.size+1<w1.heap.size:=by have:=hb1.size;simp at this;omega
 cases c3:(decide ((x.keys.length:Int)≤4)&&x.keys.all (iF m x.version))
 ·have HN:=Lib.hid (aer c3)
  go_wp2_with fail
  go_ret
  exact⟨by rw[HN.out];rfl,hB1⟩
 go_wp2_with fail
 refine(adT _ _ _ _ (hx.1.later hB1)).mono ?_
 rintro e w2 ⟨rfl,hb2⟩
 have hB2:=ag hB1 hb2
 clear hcc aS hrr
 have hbb:Below ((w.alloc (.cells (aZ s x) 67)).alloc (.cells #[.int .i64 m] 3)).heap.size ((w.alloc (.cells (aZ s x) 67)).alloc (.cells #[.int .i64 m] 3)) w2:=ag hb1 hb2
 obtain⟨hcc,aS,hrr⟩:=aY hbb
 have hsz2:w.heap.size+1<w2.heap.size:=by have:=hbb.size;simp at this;omega
 cases c4:ordered mr x.keys
 ·have HN:=Lib.hid (aes (m:=m) c4)
  go_wp2_with fail
  go_ret
  exact⟨by rw[HN.out];rfl,hB2⟩
 obtain⟨hy1,hy2⟩:=aet c2 c3 c4
 have HN:=Lib.hid (hy1.trans (aeK c1 hy2))
 clear hy1 hy2 SH hx hb1 hb2 hbb hB1 hB
 cases c5:decide ((x.df.size:Int)≤256)
 ·have c5':decide (x.df.size≤256)=false:=by rw[decide_eq_false_iff_not]at c5 ⊢;omega
  go_wp2_with fail
  go_ret
  exact⟨by rw[HN.out,c5];rfl,hB2⟩
 have c5':decide (x.df.size≤256)=true:=by rw[decide_eq_true_eq]at c5 ⊢;omega
 cases c6:aB x.dH 0 65536
 ·go_wp2_with (go_at_call 118;refine(uN _ _ _ _).mono ?_;rintro e w' ⟨rfl,rfl⟩)
  go_ret
  exact⟨by rw[HN.out,c5,c6];rfl,hB2⟩
 cases c7:decide (0<x.dH)
 ·cases c8:x.df.toList.isEmpty
  ·have c8':¬x.df.toList=[]:=by simpa using c8
   go_wp2_with (go_at_call 118;refine(uN _ _ _ _).mono ?_;rintro e w' ⟨rfl,rfl⟩)
   go_ret
   exact⟨by rw[HN.out,c5,c6,CP,c7,c8];rfl,hB2⟩
  ·have c8':x.df.toList=[]:=by simpa using c8
   go_wp2_with (go_at_call 118;refine(uN _ _ _ _).mono ?_;rintro e w' ⟨rfl,rfl⟩)
   go_ret
   exact⟨by rw[HN.out,c5,c6,CP,c7,c8];rfl,hB2⟩
 ·go_wp2_with (go_at_call 118;refine(uN _ _ _ _).mono ?_;rintro e w' ⟨rfl,rfl⟩)
  go_ret
  exact⟨by rw[HN.out,c5,c6,CP,c7];rfl,hB2⟩
theorem aeO(s:Sl)(x:bn)(B:Nat)(m:Int)(w:World)(hx:jq w s x)(h:w.cell? ⟨B,4,none⟩=some (.int .i64 m)):Calls Tryz.prog 201 #[.agg (aZ s x),.pointer (some ⟨B,0,none⟩)] w fun e w'=>e=.returned (.bool (gV m x))∧Below w.heap.size w w':=by
 have hb:B<w.heap.size:=World.block_lt_of_cell? w _ h
 have hB:Below w.heap.size w (w.alloc (.cells (aZ s x) 67)):=(Below.refl _ w).alloc (Nat.le_refl _) _
 go_enter Tryz.func201,Tryz.ntmps201
 go_wp2_with fail
 refine(aeL _ _ _ _ (hx.later hB)).mono ?_
 rintro e w1 ⟨rfl,hb1⟩
 go_wp2_with fail
 go_ret
 exact⟨rfl,ag hB hb1⟩
theorem aeP:Enters 201:=⟨fun args w=>by kernel_rfl⟩
def wI(d:Entry):Bool:=(decide ((d.keys.length:Int)≤16)&&d.keys.all (gV d.dP))&&ordered kE d.keys
theorem aeQ(r:aN)(d:Entry)(w:World)(he:bJ w r d):Calls Tryz.prog 120 #[.agg (ae r d)] w fun e w'=>e=.returned (.bool (wI d))∧Below w.heap.size w w':=by
 have hB:Below w.heap.size w (w.alloc (.cells (ae r d) 47)):=(Below.refl _ w).alloc (Nat.le_refl _) _
 have hk:=he.keys.later hB
 have g:(w.alloc (.cells (ae r d) 47)).cell? ⟨w.heap.size,4,none⟩=some (.int .i64 d.dP):=by simp[go_sem]
 have HF:=Lib.hid (adL r.keys.a r.keys.cap 201 16 d.keys w.heap.size (gV d.dP) _ aeP hk (fun y t p _ hp=>aeO t p _ d.dP y.w hp ((y.b.cell (p:=⟨w.heap.size,4,none⟩) (by simp)).trans g)))
 clear g hk
 go_enter Tryz.func120,Tryz.ntmps120
 go_wp2_with fail
 refine(HF.out).mono ?_
 rintro e w1 ⟨rfl,hb1⟩
 have hB1:=ag hB hb1
 obtain⟨hcc,aS,hrr⟩:=aY hb1
 have hsz:w.heap.size<w1.heap.size:=by have:=hb1.size;simp at this;omega
 cases c1:(decide ((d.keys.length:Int)≤16)&&d.keys.all (gV d.dP))
 ·have HN:=Lib.hid (show wI d=false by rw[wI,c1];rfl)
  go_wp2_with fail
  go_ret
  exact⟨by rw[HN.out];rfl,hB1⟩
 ·have HN:=Lib.hid (show wI d=ordered kE d.keys by rw[wI,c1];rfl)
  go_wp2_with fail
  refine(adV _ _ _ _ (he.keys.later hB1)).mono ?_
  rintro e w2 ⟨rfl,hb2⟩
  go_wp2_with fail
  go_ret
  exact⟨by rw[HN.out];rfl,ag hB1 hb2⟩
theorem aeR:Enters 197:=⟨fun args w=>by kernel_rfl⟩
theorem SI(a:Option Addr)(cap:Nat)(l:List az)(w:World)(hl:fF w a l):Calls Tryz.prog 122 #[.slice a l.length cap] w fun e w'=>e=.returned (.bool (different l))∧Below w.heap.size w w':=by
 have HF:=Lib.hid (adH a cap 197 16 l bC _ aeR hl (fun y t p _ hp=>zZ t p y.w hp))
 have HE:=Lib.hid (adB l)
 go_enter Tryz.func122,Tryz.ntmps122
 go_wp2_with fail
 refine(HF.out).mono ?_
 rintro e w1 ⟨rfl,hb1⟩
 cases c1:(decide ((l.length:Int)≤16)&&l.all bC)
 ·have HN:=Lib.hid (show different l=false by rw[←HE.out,c1];rfl)
  go_wp2_with fail
  go_ret
  exact⟨by rw[HN.out];rfl,hb1⟩
 ·have HN:=Lib.hid (show different l=uP l by rw[←HE.out,c1];rfl)
  have hall:l.all bC=true:=by rw[Bool.and_eq_true]at c1;exact c1.2
  have HA:=Lib.hid hall
  clear hall
  go_wp2_with fail
  refine(SE _ _ _ _ (hl.later hb1) HA.out).mono ?_
  rintro e w2 ⟨rfl,hb2⟩
  go_wp2_with fail
  go_ret
  exact⟨by rw[HN.out];rfl,ag hb1 hb2⟩
end Go.Proofs.YtfieenjdcpjmgaaGreatDoor
namespace Go.WW
open Go.RowKit
theorem aV.src{w:World}{k n:Nat}{a:Option Addr}{R:Nat→Array Value→Prop}(h:aV w k a n R)(hR:∀i cs,R i cs→cs.size=k∧dG cs=true) :
  ∃rows,rows.length=n∧cO w k a rows∧∀i (hi:i<rows.length),R i rows[i]:=by
 rcases Nat.eq_zero_or_pos n with h0|h0
 ·subst h0;exact⟨[],rfl,⟨by simp,by simp,fun i hi=>by simp at hi⟩,fun i hi=>by simp at hi⟩
 ·obtain⟨b,o,_,ha,_⟩:=h.2 0 h0
  have key:∀i,i<n→∃cs,row? w b (o+i*k) k=some cs∧R i cs:=fun i hi=>by
   obtain⟨b',o',cs,ha',hr,hc⟩:=h.2 i hi
   rw[ha]at ha';cases ha'
   exact⟨cs,hr,hc⟩
  have hg:∀i (hi:i<((List.range n).map fun i=>(row? w b (o+i*k) k).getD #[]).length),∃cs,((List.range n).map fun i=>(row? w b (o+i*k) k).getD #[])[i]=cs∧row? w b (o+i*k) k=some cs∧R i cs:=fun i hi=>by
   have hi':i<n:=by simpa using hi
   obtain⟨cs,h1,h2⟩:=key i hi'
   exact⟨cs,by simp[h1],h1,h2⟩
  refine⟨(List.range n).map fun i=>(row? w b (o+i*k) k).getD #[],by simp,⟨fun r hr=>?_,fun r hr=>?_,fun i hi=>?_⟩,fun i hi=>?_⟩
  ·obtain⟨i,hi,rfl⟩:=List.mem_iff_getElem.1 hr
   obtain⟨cs,e,_,h2⟩:=hg i hi
   rw[e];exact(hR i cs h2).1
  ·obtain⟨i,hi,rfl⟩:=List.mem_iff_getElem.1 hr
   obtain⟨cs,e,_,h2⟩:=hg i hi
   rw[e];exact(hR i cs h2).2
  ·obtain⟨cs,e,h1,_⟩:=hg i hi
   exact⟨b,o,ha,by rw[e];exact h1⟩
  ·obtain⟨cs,e,_,h2⟩:=hg i hi
   rw[e];exact h2
theorem aV.ed{w:World}{base k n:Nat}{e:TypeId}{s:Sl}{rows:List (Array Value)}{R:Nat→Array Value→Prop}(h:Own w base e k s rows)(hl:rows.length=n)(hn:n≤lim)(hR:∀i (hi:i<rows.length),R i rows[i]):aV w k s.a n R:=by
 subst hl
 refine⟨hn,fun i hi=>?_⟩
 obtain⟨g,ha,_,hrow⟩:=h.row i hi
 exact⟨g,0,rows[i],ha,hrow,hR i hi⟩
theorem aeS{w:World}{b o:Nat}{v:Value}(h:w.cell? ⟨b,o,none⟩=some v):row? w b o 1=some #[v]:=by
 have hlt:=World.block_lt_of_cell? w _ h
 unfold row?
 cases hb:w.heap[b]? with
 |none=>exfalso;simp[World.cell?,hb]at h
 |some ob=>
  cases ob with
  |cells c t f=>
   rw[cell_of_row w b o c t f hb]at h
   have ho:=(Array.getElem?_eq_some_iff.1 h).1
   show(if o+1≤c.size then _ else _)=_
   rw[if_pos (by omega)]
   congr 1
   apply Array.ext_getElem?
   intro j
   rw[Array.getElem?_extract]
   by_cases hj:j=0
   ·subst hj;rw[if_pos (by omega)];simpa using h
   ·rw[if_neg (by omega)];simp;omega
  |_=>exfalso;simp[World.cell?,hb]at h
theorem dU.src{w:World}{n:Nat}{a:Option Addr}{R:Nat→Value→Prop}(h:dU w a n R)(hR:∀i v,R i v→v.oneCell'=true) :
  ∃rows,rows.length=n∧cO w 1 a rows∧∀i (hi:i<rows.length),∃v,rows[i]=#[v]∧R i v:=by
 have h':aV w 1 a n (fun i cs=>∃v,cs=#[v]∧R i v):=⟨h.1,fun i hi=>by
  obtain⟨b,o,v,ha,hc,hr⟩:=h.2 i hi
  exact⟨b,o,#[v],ha,by rw[Nat.mul_one];exact aeS hc,v,rfl,hr⟩⟩
 obtain⟨rows,h1,h2,h3⟩:=h'.src (fun i cs ⟨v,e,hr⟩=>by subst e;exact⟨rfl,by simp[dG,hR i v hr]⟩)
 exact⟨rows,h1,h2,h3⟩
theorem dU.ed{w:World}{base n:Nat}{e:TypeId}{s:Sl}{rows:List (Array Value)}{R:Nat→Value→Prop}(h:Own w base e 1 s rows)(hl:rows.length=n)(hn:n≤lim)(hR:∀i (hi:i<rows.length),∃v,rows[i]=#[v]∧R i v):dU w s.a n R:=by
 subst hl
 refine⟨hn,fun i hi=>?_⟩
 obtain⟨g,ha,_,hrow⟩:=h.row i hi
 obtain⟨v,e,hr⟩:=hR i hi
 refine⟨g,0,v,ha,?_,hr⟩
 have:=gJ hrow 0 (by omega)
 rw[e,Nat.mul_one]at this
 simpa using this
theorem aeT{P:Program}{ops:Array Oper}{rest:List Oper}{o:Oper}{a:Act}{w:World}{Q:Exit→Act→World→Prop}(hw:Region.wanted o (yielded ops a.tmps)=true)(x y:Operand)(t:TypeId)(ho:o.op=.call {callee:=.builtin .append,args:=#[x,y],argTypes:=#[t,t]})
  {e:TypeId} {k bytes:Nat} (he:fQ P t e k bytes) {base:Nat} {s:Sl} {n:Nat} {rows:List (Array Value)} (hx:a.eval x=.slice s.a n s.cap) (hn:n=rows.length) (h:Own w base e k s rows) {A:Option Addr} {news:List (Array Value)} {m c:Nat}
  (hy:a.eval y=.slice A m c) (hm:m=news.length) (hs:cO w k A news) (hlen:(rows.length+news.length)*(bytes+1)≤140737488355328) (hbase:base≤w.heap.size)
  (hK:∀(s':Sl) w',Own w' base e k s' (rows++news)→w.grownBy w' s.blk→(s'.blk=s.blk∨s'.blk=some w.heap.size)→wpList P ops Q rest (a.put o.dst (.slice s'.a (n+m) s'.cap)) w'):wpList P ops Q (o::rest) a w:=by
 subst hn hm
 refine wpList_step fun K hK'=>?_
 rw[if_pos hw]
 exact JL x y t ho he hx h hy rfl hs hlen hbase fun s' w' h2 h3 h4=>hK' _ _ (hK s' w' h2 h3 h4)
theorem Own.one(w:World)(cs:Array Value)(t:TypeId)(k:Nat)(hs:cs.size=k):Own (w.alloc (.cells cs t)) w.heap.size t k ⟨some ⟨w.heap.size,0,none⟩,1⟩ [cs]:=by
 refine⟨⟨by simp[flat,hs],.inr ⟨w.heap.size,1,cs,rfl,Nat.le_refl _,World.alloc_heap_new w _,Nat.le_refl _,by unfold maxLen;omega,by simp[hs],?_⟩⟩,by simpa using hs⟩
 simp only[flat,List.flatMap_cons,List.flatMap_nil,List.append_nil,List.length_singleton,Nat.one_mul]
 exact List.take_of_length_le (by simp[hs])
theorem CQ{w:World}{l:List az}(i:Nat)(cs:Array Value)(h:∃p s,l[i]?=some p∧cs=ai s p∧bz w s p):cs.size=2∧dG cs=true:=by
 obtain⟨p,s,_,rfl,_⟩:=h;exact⟨xX s p,Qk s p⟩
end Go.WW
namespace Go.Proofs.YtfieenjdcpjmgaaGreatDoor
open Go.RowKit Go.WW
theorem aeU:Enters 196:=⟨fun args w=>by kernel_rfl⟩
theorem aeV(s:Sl)(p n:az)(B:Nat)(w:World)(hp:bz w s p)(h:w.cell? ⟨B,1,none⟩=some (.string n.aF)):Calls Tryz.prog 196 #[.agg (ai s p),.pointer (some ⟨B,0,none⟩)] w fun e w'=>e=.returned (.bool (qW n p))∧Below w.heap.size w w':=by
 have hb:B<w.heap.size:=World.block_lt_of_cell? w _ h
 have hB:Below w.heap.size w (w.alloc (.cells (ai s p) 40)):=(Below.refl _ w).alloc (Nat.le_refl _) _
 go_enter Tryz.func196,Tryz.ntmps196
 go_wp2_with fail
 refine(zZ _ _ _ (hp.later hB)).mono ?_
 rintro e w1 ⟨rfl,hb1⟩
 have hB1:=ag hB hb1
 obtain⟨hcc,aS,hrr⟩:=aY hb1
 have hsz:w.heap.size<w1.heap.size:=by have:=hb1.size;simp at this;omega
 cases c1:bC p
 ·have HN:=Lib.hid (show qW n p=false by rw[qW,c1];rfl)
  go_wp2_with fail
  go_ret
  exact⟨by rw[HN.out];rfl,hB1⟩
 ·have HN:=Lib.hid (show qW n p=(p.aF.toList == n.aF.toList) by
   rw[qW,c1]
   by_cases h':p.aF=n.aF
   ·rw[str_eq _ _ h'];simp[h']
   ·rw[kY _ _ h'];simp[h'])
  go_wp2_with fail
  go_ret
  exact⟨by rw[HN.out];rfl,hB1⟩
theorem aeW:fQ Tryz.prog 41 40 2 40:=fQ.of Tryz.underlying41 (by kernel_rfl)
theorem cO.alloc{w:World}{k:Nat}{A:Option Addr}{rows:List (Array Value)}(h:cO w k A rows)(ob:Obj):cO (w.alloc ob) k A rows:=
 ⟨h.size,h.one,fun i hi=>by obtain⟨b,o,h1,h2⟩:=h.at_ i hi;exact⟨b,o,h1,by rw[Qd (gG h2)];exact h2⟩⟩
theorem aeX(r:aN)(d:Entry)(w:World)(he:bJ w r d):Calls Tryz.prog 119 #[.agg (ae r d)] w fun e w'=>e=.returned (.bool (qX d))∧Below w.heap.size w w':=by
 have hB:Below w.heap.size w (w.alloc (.cells (ae r d) 47)):=(Below.refl _ w).alloc (Nat.le_refl _) _
 have hA:=he.aliases.later hB
 have hal:d.aliases.length≤4294967000:=he.aliases.1
 have g:(w.alloc (.cells (ae r d) 47)).cell? ⟨w.heap.size,1,none⟩=some (.string d.name.aF):=by simp[go_sem]
 have HF:=Lib.hid (fun(w1:World) (hb1:Below (w.alloc (.cells (ae r d) 47)).heap.size (w.alloc (.cells (ae r d) 47)) w1)=>adJ r.aliases.a r.aliases.cap 196 16 d.aliases w.heap.size (qW d.name) w1 aeU (hA.later hb1) (fun y t p _ hp=>aeV t p d.name _ y.w hp (((ag hb1 y.b).cell (p:=⟨w.heap.size,1,none⟩) (by simp)).trans g)))
 clear g hA
 go_enter Tryz.func119,Tryz.ntmps119
 go_wp2_with fail
 refine(zZ _ _ _ (he.name.later hB)).mono ?_
 rintro e w1 ⟨rfl,hb1⟩
 have hB1:=ag hB hb1
 obtain⟨hcc,aS,hrr⟩:=aY hb1
 have hsz:w.heap.size<w1.heap.size:=by have:=hb1.size;simp at this;omega
 cases c1:bC d.name
 ·have HN:=Lib.hid (show qX d=false by rw[qX,c1];rfl)
  go_wp2_with fail
  go_ret
  exact⟨by rw[HN.out];rfl,hB1⟩
 go_wp2_with fail
 refine(HF.out w1 hb1).mono ?_
 rintro e w2 ⟨rfl,hb2⟩
 have hb2':=ag hb1 hb2
 have hB2:=ag hB1 hb2
 clear hcc aS hrr hsz
 obtain⟨hcc,aS,hrr⟩:=aY hb2'
 have hsz:w.heap.size<w2.heap.size:=by have:=hb2'.size;simp at this;omega
 cases c2:(decide ((d.aliases.length:Int)≤16)&&d.aliases.all (qW d.name))
 ·have HN:=Lib.hid (show qX d=false by rw[qX,c1,c2];rfl)
  go_wp2_with fail
  go_ret
  exact⟨by rw[HN.out];rfl,hB2⟩
 have HN:=Lib.hid (show qX d=uP (d.name::d.aliases) by rw[qX,c1,c2];rfl)
 have HO:=Lib.hid (show(d.name::d.aliases).all bC=true by
  rw[Bool.and_eq_true,List.all_eq_true]at c2
  rw[List.all_cons,c1,Bool.true_and,List.all_eq_true]
  intro a ha
  have:=c2.2 a ha
  rw[qW,Bool.and_eq_true]at this
  exact this.1)
 obtain⟨rows,hlr,oO,hrR⟩:=aV.src (he.aliases.later hB2) CQ
 have nC:=Lib.hid hlr
 have HRR:=Lib.hid hrR
 have SL:=cO.alloc oO (.cells (ai r.parts d.name) 40)
 have hown:=Own.one w2 (ai r.parts d.name) 40 2 (xX _ _)
 clear hlr hrR
 go_wp2_with (at_builtin;refine aeT rfl (.tmp 17) (.tmp 19) _ rfl aeW (n:=1) (s:=⟨some ⟨w2.heap.size,0,none⟩,1⟩) rfl rfl hown rfl nC.out.symm SL (by rw[nC.out];simp;omega) (by simp) ?_;intro s3 w3 hown3 hg3 gq)
 have hb3:Below w2.heap.size w2 w3:=((Below.refl _ w2).alloc (Nat.le_refl _) _).grown hg3 (by simp) (fun k e=>by cases e;exact Nat.le_refl _)
 have api:d.aliases.length≤16:=by rw[Bool.and_eq_true,decide_eq_true_eq]at c2;omega
 have hP3:fF w3 s3.a (d.name::d.aliases):=by
  refine aV.ed hown3 (by have:=nC.out;simp;omega) (by unfold lim;simp;omega) ?_
  intro i hi
  cases i with
  |zero=>exact⟨d.name,r.parts,rfl,rfl,(he.name.later hB2).later hb3⟩
  |succ i=>
   have hi':i<rows.length:=by simpa using hi
   obtain⟨p,s,h1,h2,h3⟩:=HRR.out i hi'
   exact⟨p,s,by simpa using h1,by simpa using h2,h3.later hb3⟩
 have HD:=SE s3.a s3.cap _ _ hP3 HO.out
 rw[List.length_cons,Nat.add_comm]at HD
 refine HD.mono ?_
 rintro e w4 ⟨rfl,hb4⟩
 clear hcc aS hrr oO SL hown hown3 hg3 gq
 go_wp2_with fail
 go_ret
 exact⟨by rw[HN.out];rfl,ag (ag hB2 hb3) hb4⟩
end Go.Proofs.YtfieenjdcpjmgaaGreatDoor
namespace Go.WW
open Go.RowKit
def CS(ops:Array Oper)(o:Oper)(a:Act):Option Act:=
 if Region.wanted o (yielded ops a.tmps)then
  match o.op with
  | .move x=>some (a.put o.dst (a.eval x))
  | .assign x=>some (a.put o.dst (a.eval x))
  | .pick c x y=>match a.eval c with | .bool b=>some (a.put o.dst (if b then a.eval x else a.eval y))|_=>none
  |_=>none
 else some (a.put o.dst undef)
def yj(ops:Array Oper):List Oper→Act→Option Act
 | [],a=>some a
 |o::l,a=>match CS ops o a with|some a'=>yj ops l a'|none=>none
def okF(t:Nat):Option Act→Bool
 |some a=>match a.tmps.getD t undef with | .bool false=>true|_=>false
 |none=>false
theorem put_defers(a:Act)(d:Option Tmp)(v:Value):(a.put d v).defers=a.defers:=by unfold Act.put;cases d<;>rfl
theorem aeY{ops:Array Oper}{o:Oper}{a a':Act}(h:CS ops o a=some a'):a'.defers=a.defers:=by
 unfold CS at h
 split at h
 ·split at h
  iterate 2
   ·cases h;exact put_defers _ _ _
  ·split at h
   ·cases h;exact put_defers _ _ _
   ·cases h
  ·cases h
 ·cases h;exact put_defers _ _ _
theorem SN{ops:Array Oper}:∀{l:List Oper} {a a':Act},yj ops l a=some a'→a'.defers=a.defers
 | [],a,a',h=>by cases h;rfl
 |o::l,a,a',h=>by
  unfold yj at h
  split at h
  ·rename_i b hb;rw[SN h,aeY hb]
  ·cases h
theorem aeZ{P:Program}{ops:Array Oper}{Q:Exit→Act→World→Prop}{o:Oper}{rest:List Oper}{a a':Act}{w:World}(h:CS ops o a=some a')(hr:wpList P ops Q rest a' w):wpList P ops Q (o::rest) a w:=by
 refine wpList_step fun K hK=>?_
 unfold CS at h
 split at h
 ·rename_i hw
  rw[if_pos hw]
  unfold Oper.wp
  split at h
  iterate 2
   ·rename_i x hop;cases h;simp only[execOp,hop,Sem.run_pure,Oper.upon];exact hK _ _ hr
  ·rename_i c x y hop
   split at h
   ·rename_i b hb;cases h
    simp only[execOp,hop,hb,asBool,Sem.run_bind,Sem.run_pure,Result.andThen,Oper.upon]
    exact hK _ _ (by cases b<;>exact hr)
   ·cases h
  ·cases h
 ·rename_i hw
  cases h
  rw[if_neg hw]
  exact hK _ _ hr
theorem SQ{P:Program}{ops:Array Oper}{Q:Exit→Act→World→Prop}{w:World}:∀{l:List Oper} {a a':Act},yj ops l a=some a'→Q .normal a' w→wpList P ops Q l a w
 | [],a,a',h,hq=>by cases h;exact hq
 |o::l,a,a',h,hq=>by
  unfold yj at h
  split at h
  ·rename_i b hb;exact aeZ hb (SQ h hq)
  ·cases h
theorem tC{P:Program}{ops:Array Oper}{Q:Exit→Act→World→Prop}{w:World}{l:List Oper}{a:Act}(t:Nat)(h:okF t (yj ops l a)=true)(hq:∀a',a'.tmps.getD t undef=.bool false→a'.defers=a.defers→Q .normal a' w):wpList P ops Q l a w:=by
 cases hr:yj ops l a with
 |none=>rw[hr]at h;cases h
 |some a'=>
  refine SQ hr (hq a' ?_ (SN hr))
  rw[hr]at h
  unfold okF at h
  split at h
  ·rename_i b hb
   cases hb
   split at h
   ·assumption
   ·cases h
  ·cases h
end Go.WW
namespace Go.WW
theorem ae0(x y:BitVec 32):(x&&& ~~~y=0#32)↔(x ||| y=y):=by
 constructor
 ·intro h
  apply BitVec.eq_of_getElem_eq
  intro i hi
  have:=congrArg (fun v=>v[i]) h
  simp at this ⊢
  intro h'
  cases hy:y[i]
  ·exact absurd (this h') (by simp[hy])
  ·rfl
 ·intro h
  apply BitVec.eq_of_getElem_eq
  intro i hi
  have:=congrArg (fun v=>v[i]) h
  simp at this ⊢
  exact this
theorem ae1(a:Int)(h0:0≤a)(h1:a≤4294967295):(bits .andNot .u32 a 1023 == 0)=wG a:=by
 obtain⟨n,rfl⟩:=Int.eq_ofNat_of_zero_le h0
 have hn:n<4294967296:=by omega
 have e:bits .andNot .u32 (n:Int) 1023=((BitVec.ofInt 32 (n:Int)&&& ~~~ BitVec.ofInt 32 1023).toNat:Int):=by
  show IntKind.u32.wrap ((BitVec.ofInt 32 (n:Int)&&& ~~~ BitVec.ofInt 32 1023).toNat:Int)=_
  have:=(BitVec.ofInt 32 (n:Int)&&& ~~~ BitVec.ofInt 32 1023).isLt
  generalize (BitVec.ofInt 32 (n:Int)&&& ~~~ BitVec.ofInt 32 1023).toNat=v at this ⊢
  have e2:(2:Int) ^ IntKind.u32.bits=4294967296:=rfl
  have e3:IntKind.u32.signed=false:=rfl
  simp[IntKind.wrap,e2,e3]
  omega
 have e1:(BitVec.ofInt 32 (n:Int)).toNat=n:=by simp;omega
 have k1:((BitVec.ofInt 32 (n:Int)&&& ~~~ BitVec.ofInt 32 1023).toNat=0)↔n≤1023:=by
  rw[show(BitVec.ofInt 32 (n:Int)&&& ~~~ BitVec.ofInt 32 1023).toNat=0↔BitVec.ofInt 32 (n:Int)&&& ~~~ BitVec.ofInt 32 1023=0#32 from⟨fun h=>BitVec.eq_of_toNat_eq (by rw[h];rfl),fun h=>by rw[h];rfl⟩,ae0]
  rw[show(BitVec.ofInt 32 (n:Int) ||| BitVec.ofInt 32 1023=BitVec.ofInt 32 1023)↔(n ||| 1023=1023) from ?_]
  ·exact Ri n
  ·constructor
   ·intro h
    have:=congrArg BitVec.toNat h
    rw[BitVec.toNat_or,e1]at this
    exact this
   ·intro h
    apply BitVec.eq_of_toNat_eq
    rw[BitVec.toNat_or,e1]
    exact h
 rw[e,wG,Bool.eq_iff_iff]
 simp only[beq_iff_eq,decide_eq_true_eq]
 omega
open Go.RowKit
theorem SS{w:World}{b:Nat}(x:Int)(h:w.cell? ⟨b,0,none⟩=some (.int .i64 x)):pR w (some ⟨b,0,none⟩) [x]:=by
 refine⟨by simp[lim],fun i hi=>?_⟩
 match i,hi with
 |0,_=>exact⟨_,_,_,rfl,h,x,rfl,rfl⟩
theorem ae2{w:World}{b:Nat}(x y:Int)(h:w.cell? ⟨b,0,none⟩=some (.int .i64 x))(h1:w.cell? ⟨b,1,none⟩=some (.int .i64 y)):pR w (some ⟨b,0,none⟩) [x,y]:=by
 refine⟨by simp[lim],fun i hi=>?_⟩
 match i,hi with
 |0,_=>exact⟨_,_,_,rfl,h,x,rfl,rfl⟩
 |1,_=>exact⟨_,_,_,rfl,h1,y,rfl,rfl⟩
theorem ae3{w:World}{b:Nat}(x y z u:Int)(h:w.cell? ⟨b,0,none⟩=some (.int .i64 x))(h1:w.cell? ⟨b,1,none⟩=some (.int .i64 y))(h2:w.cell? ⟨b,2,none⟩=some (.int .i64 z))(h3:w.cell? ⟨b,3,none⟩=some (.int .i64 u)):pR w (some ⟨b,0,none⟩) [x,y,z,u]:=by
 refine⟨by simp[lim],fun i hi=>?_⟩
 match i,hi with
 |0,_=>exact⟨_,_,_,rfl,h,x,rfl,rfl⟩
 |1,_=>exact⟨_,_,_,rfl,h1,y,rfl,rfl⟩
 |2,_=>exact⟨_,_,_,rfl,h2,z,rfl,rfl⟩
 |3,_=>exact⟨_,_,_,rfl,h3,u,rfl,rfl⟩
end Go.WW
namespace Go.Proofs.YtfieenjdcpjmgaaGreatDoor
open Go.RowKit Go.WW
def jw(d:Entry):Bool:=qX d&&wG d.attrs&&([d.dP].all fun v=>aB v 0 65535)&&wI d&&(visible d.aO&&decide ((d.aO.size:Int)≤32))&&([d.ik,d.iq,d.eY,d.gy].all fun v=>aB v 0 1099511627776)&&
 ([d.gQ,d.gU].all fun v=>aB v 0 2147483648)&&([d.fails].all fun v=>aB v 0 65535)&&different d.targets&&different d.bu&&(decide ((d.history.length:Int)≤16)&&d.history.all (fun h=>(h.length:Int) == 16))
theorem valid_eq(d:Entry):jw d=bT d:=by
 unfold jw bT
 rw[adC]
 simp only[wI,kF,jD,List.all_cons,List.all_nil,Bool.and_true]
 rw[Bool.eq_iff_iff]
 simp only[Bool.and_eq_true]
 constructor
 iterate 2
  ·intro h;simp only[h,and_self]
theorem ae4(a:Option Addr)(n cap:Nat)(w:World):Calls Tryz.prog 124 #[.slice a n cap] w fun e w'=>e=.returned (.bool ((n:Int) == 16))∧Below w.heap.size w w':=by
 go_enter Tryz.func124,Tryz.ntmps124
 go_wp2_with fail
 go_ret
 exact⟨by first|rfl|(congr 2;rw[Bool.eq_iff_iff];simp;omega),Below.refl _ _⟩
theorem ae5:Enters 124:=⟨fun args w=>by kernel_rfl⟩
theorem CU(r:aN)(d:Entry)(w:World)(he:bJ w r d):Calls Tryz.prog 63 #[.agg (ae r d)] w fun e w'=>e=.returned (.bool (bT d))∧Below w.heap.size w w':=by
 have hB:Below w.heap.size w (w.alloc (.cells (ae r d) 47)):=(Below.refl _ w).alloc (Nat.le_refl _) _
 have hps:d.aO.size≤maxLen:=by have:=he.aO;unfold lim at this;unfold maxLen;omega
 have HPS:=Lib.hid hps
 clear hps
 have hb0:Below (w.alloc (.cells (ae r d) 47)).heap.size (w.alloc (.cells (ae r d) 47)) (w.alloc (.cells (ae r d) 47)):=Below.refl _ _
 go_enter Tryz.func63,Tryz.ntmps63
 rw[←valid_eq]
 go_wp2_with fail
 have hbx:=hb0
 refine(aeX _ _ _ (he.later (ag hB hbx))).mono ?_
 rintro e w1 ⟨rfl,hy⟩
 have hb1:=ag hbx hy
 clear hbx hy
 obtain⟨hcc,aS,hrr⟩:=aY hb1
 have hsz:w.heap.size<w1.heap.size:=by have:=hb1.size;simp at this;omega
 cases c1:qX d
 ·have HN:=Lib.hid (show jw d=false by rw[jw,c1];simp only[Bool.false_and])
  dsimp only
  first|go_values|go_step|go_upon
  refine tC 2 (by kernel_rfl) ?_
  intro a' h1 h2
  go_wp2_with fail
  refine bodyPost_ret (results_tmp (t:=2) (by rfl) _ _ _) h2 ?_
  exact⟨by rw[h1,HN.out],ag hB hb1⟩
 have hat:=ae1 d.attrs he.attrs.1 he.attrs.2
 cases c2:wG d.attrs
 ·have HN:=Lib.hid (show jw d=false by rw[jw,c2];simp only[Bool.and_false,Bool.false_and])
  rw[c2]at hat
  dsimp only
  iterate 17 (first|go_values|go_skip|go_guarded|go_step|go_upon)
  refine tC 2 (by kernel_rfl) ?_
  intro a' h1 h2
  go_wp2_with fail
  refine bodyPost_ret (results_tmp (t:=2) (by rfl) _ _ _) h2 ?_
  exact⟨by rw[h1,HN.out],ag hB hb1⟩
 rw[c2]at hat
 try dsimp only
 go_wp2_with fail
 have hbx:=aj hb1 (.cells #[.int .i64 d.dP] 3)
 refine(FI _ _ _ 65535 [d.dP] _ (SS _ (by simp[go_sem]))).mono ?_
 rintro e w2 ⟨rfl,hy⟩
 have hb2:=ag hbx hy
 clear hcc aS hrr hsz hbx hy
 obtain⟨hcc,aS,hrr⟩:=aY hb2
 have hsz:w.heap.size<w2.heap.size:=by have:=hb2.size;simp at this;omega
 cases c3:([d.dP].all fun v=>aB v 0 65535)
 ·have HN:=Lib.hid (show jw d=false by rw[jw,c3];simp only[Bool.and_false,Bool.false_and])
  dsimp only
  first|go_values|go_step|go_upon
  refine tC 2 (by kernel_rfl) ?_
  intro a' h1 h2
  go_wp2_with fail
  refine bodyPost_ret (results_tmp (t:=2) (by rfl) _ _ _) h2 ?_
  exact⟨by rw[h1,HN.out],ag hB hb2⟩
 try dsimp only
 go_wp2_with fail
 have hbx:=hb2
 refine(aeQ _ _ _ (he.later (ag hB hbx))).mono ?_
 rintro e w3 ⟨rfl,hy⟩
 have hb3:=ag hbx hy
 clear hcc aS hrr hsz hbx hy
 obtain⟨hcc,aS,hrr⟩:=aY hb3
 have hsz:w.heap.size<w3.heap.size:=by have:=hb3.size;simp at this;omega
 cases c4:wI d
 ·have HN:=Lib.hid (show jw d=false by rw[jw,c4];simp only[Bool.and_false,Bool.false_and])
  dsimp only
  first|go_values|go_step|go_upon
  refine tC 2 (by kernel_rfl) ?_
  intro a' h1 h2
  go_wp2_with fail
  refine bodyPost_ret (results_tmp (t:=2) (by rfl) _ _ _) h2 ?_
  exact⟨by rw[h1,HN.out],ag hB hb3⟩
 try dsimp only
 go_wp2_with fail
 refine(abY _ _ HPS.out).mono ?_
 rintro e w' ⟨rfl,rfl⟩
 cases c5:(visible d.aO&&decide ((d.aO.size:Int)≤32))
 ·have HN:=Lib.hid (show jw d=false by rw[jw,c5];simp only[Bool.and_false,Bool.false_and])
  dsimp only
  first|go_values|go_step|go_upon
  refine tC 2 (by kernel_rfl) ?_
  intro a' h1 h2
  go_wp2_with fail
  refine bodyPost_ret (results_tmp (t:=2) (by rfl) _ _ _) h2 ?_
  exact⟨by rw[h1,HN.out],ag hB hb3⟩
 try dsimp only
 go_wp2_with fail
 have hbx:=aj hb3 (.cells #[.int .i64 d.ik,.int .i64 d.iq,.int .i64 d.eY,.int .i64 d.gy] 3)
 refine(FI _ _ _ 1099511627776 [d.ik,d.iq,d.eY,d.gy] _ (ae3 _ _ _ _ (by simp[go_sem]) (by simp[go_sem]) (by simp[go_sem]) (by simp[go_sem]))).mono ?_
 rintro e w4 ⟨rfl,hy⟩
 have hb4:=ag hbx hy
 clear hcc aS hrr hsz hbx hy
 obtain⟨hcc,aS,hrr⟩:=aY hb4
 have hsz:w.heap.size<w4.heap.size:=by have:=hb4.size;simp at this;omega
 cases c6:([d.ik,d.iq,d.eY,d.gy].all fun v=>aB v 0 1099511627776)
 ·have HN:=Lib.hid (show jw d=false by rw[jw,c6];simp only[Bool.and_false,Bool.false_and])
  dsimp only
  first|go_values|go_step|go_upon
  refine tC 2 (by kernel_rfl) ?_
  intro a' h1 h2
  go_wp2_with fail
  refine bodyPost_ret (results_tmp (t:=2) (by rfl) _ _ _) h2 ?_
  exact⟨by rw[h1,HN.out],ag hB hb4⟩
 try dsimp only
 go_wp2_with fail
 have hbx:=aj hb4 (.cells #[.int .i64 d.gQ,.int .i64 d.gU] 3)
 refine(FI _ _ _ 2147483648 [d.gQ,d.gU] _ (ae2 _ _ (by simp[go_sem]) (by simp[go_sem]))).mono ?_
 rintro e w5 ⟨rfl,hy⟩
 have hb5:=ag hbx hy
 clear hcc aS hrr hsz hbx hy
 obtain⟨hcc,aS,hrr⟩:=aY hb5
 have hsz:w.heap.size<w5.heap.size:=by have:=hb5.size;simp at this;omega
 cases c7:([d.gQ,d.gU].all fun v=>aB v 0 2147483648)
 ·have HN:=Lib.hid (show jw d=false by rw[jw,c7];simp only[Bool.and_false,Bool.false_and])
  dsimp only
  first|go_values|go_step|go_upon
  refine tC 2 (by kernel_rfl) ?_
  intro a' h1 h2
  go_wp2_with fail
  refine bodyPost_ret (results_tmp (t:=2) (by rfl) _ _ _) h2 ?_
  exact⟨by rw[h1,HN.out],ag hB hb5⟩
 try dsimp only
 go_wp2_with fail
 have hbx:=aj hb5 (.cells #[.int .i64 d.fails] 3)
 refine(FI _ _ _ 65535 [d.fails] _ (SS _ (by simp[go_sem]))).mono ?_
 rintro e w6 ⟨rfl,hy⟩
 have hb6:=ag hbx hy
 clear hcc aS hrr hsz hbx hy
 obtain⟨hcc,aS,hrr⟩:=aY hb6
 have hsz:w.heap.size<w6.heap.size:=by have:=hb6.size;simp at this;omega
 cases c8:([d.fails].all fun v=>aB v 0 65535)
 ·have HN:=Lib.hid (show jw d=false by rw[jw,c8];simp only[Bool.and_false,Bool.false_and])
  dsimp only
  first|go_values|go_step|go_upon
  refine tC 2 (by kernel_rfl) ?_
  intro a' h1 h2
  go_wp2_with fail
  refine bodyPost_ret (results_tmp (t:=2) (by rfl) _ _ _) h2 ?_
  exact⟨by rw[h1,HN.out],ag hB hb6⟩
 try dsimp only
 go_wp2_with fail
 have hbx:=hb6
 refine(SI _ _ d.targets _ (he.targets.later (ag hB hbx))).mono ?_
 rintro e w7 ⟨rfl,hy⟩
 have hb7:=ag hbx hy
 clear hcc aS hrr hsz hbx hy
 obtain⟨hcc,aS,hrr⟩:=aY hb7
 have hsz:w.heap.size<w7.heap.size:=by have:=hb7.size;simp at this;omega
 cases c9:different d.targets
 ·have HN:=Lib.hid (show jw d=false by rw[jw,c9];simp only[Bool.and_false,Bool.false_and])
  dsimp only
  first|go_values|go_step|go_upon
  refine tC 2 (by kernel_rfl) ?_
  intro a' h1 h2
  go_wp2_with fail
  refine bodyPost_ret (results_tmp (t:=2) (by rfl) _ _ _) h2 ?_
  exact⟨by rw[h1,HN.out],ag hB hb7⟩
 try dsimp only
 go_wp2_with fail
 have hbx:=hb7
 refine(SI _ _ d.bu _ (he.bu.later (ag hB hbx))).mono ?_
 rintro e w8 ⟨rfl,hy⟩
 have hb8:=ag hbx hy
 clear hcc aS hrr hsz hbx hy
 obtain⟨hcc,aS,hrr⟩:=aY hb8
 have hsz:w.heap.size<w8.heap.size:=by have:=hb8.size;simp at this;omega
 cases c10:different d.bu
 ·have HN:=Lib.hid (show jw d=false by rw[jw,c10];simp only[Bool.and_false,Bool.false_and])
  dsimp only
  first|go_values|go_step|go_upon
  refine tC 2 (by kernel_rfl) ?_
  intro a' h1 h2
  go_wp2_with fail
  refine bodyPost_ret (results_tmp (t:=2) (by rfl) _ _ _) h2 ?_
  exact⟨by rw[h1,HN.out],ag hB hb8⟩
 have HN:=Lib.hid (show jw d=(decide ((d.history.length:Int)≤16)&&d.history.all (fun h=>(h.length:Int) == 16)) by rw[jw,c1,c2,c3,c4,c5,c6,c7,c8,c9,c10];rfl)
 try dsimp only
 go_wp2_with fail
 refine(adP r.history.a r.history.cap 124 16 d.history (fun h=>(h.length:Int) == 16) _ ae5 (he.history.later (ag hB hb8)) (fun y t p _ _=>ae4 _ _ _ _)).mono ?_
 rintro e w99 ⟨rfl,hy⟩
 try dsimp only
 go_wp2_with fail
 go_ret
 exact⟨by rw[HN.out];rfl,ag (ag hB hb8) hy⟩
end Go.Proofs.YtfieenjdcpjmgaaGreatDoor
namespace Go.Proofs.YtfieenjdcpjmgaaGreatDoor
open Go.ChangeShapes Go.WideShapes Go.ChangeAt Go.RowKit Go.WW Go.Deep
section
variable {H:Type}
theorem ae7(d:DataW H):1≤Rows.uptoBulk d:=by
 cases d with
 |lit l=>cases l<;>simp[Rows.uptoBulk]
 |_=>simp[Rows.uptoBulk]
theorem SV:∀(l:List (DataW H)),l.length≤Rows.uptoBulkAll l
 | []=>by simp[Rows.uptoBulkAll]
 |d::l=>by have:=ae7 d;have:=SV l;simp[Rows.uptoBulkAll];omega
theorem JR{d:DataW H}:∀{l:List (DataW H)},d∈l→Rows.uptoBulk d≤Rows.uptoBulkAll l
 | [],h=>by simp at h
 |e::l,h=>by
  rcases List.mem_cons.1 h with rfl|h
  ·simp[Rows.uptoBulkAll]
  ·have:=JR h;simp[Rows.uptoBulkAll];omega
end
theorem ae8{w:World}{b o n:Nat}{cs:List Value}(hn:cs.length=n)(h0:0<n)(h:∀j,j<n→w.cell? ⟨b,o+j,none⟩=cs[j]?):row? w b o n=some cs.toArray:=by
 have hlast:=h (n-1) (by omega)
 rw[List.getElem?_eq_getElem (by omega)]at hlast
 unfold row?
 cases hb:w.heap[b]? with
 |none=>exfalso;simp[World.cell?,hb]at hlast
 |some ob=>
  cases ob with
  |cells c t f=>
   rw[cell_of_row w b (o+(n-1)) c t f hb]at hlast
   have hl:=(Array.getElem?_eq_some_iff.1 hlast).1
   show(if o+n≤c.size then _ else _)=_
   rw[if_pos (by omega)]
   congr 1
   apply Array.ext_getElem?
   intro j
   rw[Array.getElem?_extract]
   by_cases hj:j<n
   ·rw[if_pos (by omega),←cell_of_row w b (o+j) c t f hb,h j hj];simp
   ·rw[if_neg (by omega)];simp;omega
  |_=>exfalso;simp[World.cell?,hb]at hlast
section
variable {H:Type} {enc:TypeId×Value→H} {P:Program} {w:World} {base:Nat} {spare:Nat→Bool} {held:Bool}
theorem yl{t e:TypeId}{fuel k:Nat}{v:Value}{x:DataW H×List MemPlace}(ht:P.underlying t=some (.slice e))(hC:P.cellsOf e=k)(h0:0<k)(h:DataW.trod enc P w base spare held fuel t [v]=some x)(hb:Rows.uptoBulk x.1≤1048576) :
  ∃(s:Sl) (n:Nat),v=.slice s.a n s.cap∧n≤1048576∧∀i,i<n→∃b o cs fuel' y,s.a=some ⟨b,o,none⟩∧row? w b (o+i*k) k=some cs∧DataW.trod enc P w base spare held fuel' e cs.toList=some y∧Rows.uptoBulk y.1≤1048576:=by
 rcases open_slice ht h with⟨hcs,rfl⟩|⟨a,len,cap,m,n,D,Pl,hcs,hba,hle,hmax,hm,hx,hel⟩
 ·refine⟨⟨none,0⟩,0,by simpa using hcs,by omega,fun i hi=>by omega⟩
 ·rw[hx]at hb
  simp only[Rows.uptoBulk]at hb
  have hlen:=SV ((List.range len).map D)
  simp only[List.length_map,List.length_range]at hlen
  refine⟨⟨some a,cap⟩,len,by simpa using hcs,by omega,fun i hi=>?_⟩
  have hml:len≤m:=by rw[hm];split<;>omega
  obtain⟨c0,hc0,_⟩:=hel 0 (by omega)
  rw[hC]at hc0
  obtain⟨_,hl0,ae9⟩:=World.cells?_some hc0
  have hspot:a.spot=none:=by
   have h1:=ae9 0 h0
   rw[List.getElem?_eq_getElem (by omega)]at h1
   simp only[Nat.zero_mul,Addr.add,if_true]at h1
   unfold World.cell? at h1
   split at h1
   ·split at h1
    ·cases h1
    ·rename_i hs;simpa using hs
   ·cases h1
  obtain⟨b,o,sp⟩:=a
  dsimp only at hspot
  subst hspot
  obtain⟨cs',hc',ht'⟩:=hel i (by omega)
  rw[hC]at hc'
  obtain⟨_,hl',hat'⟩:=World.cells?_some hc'
  refine⟨b,o,cs'.toArray,n,(D i,Pl i),rfl,ae8 hl' h0 (fun j hj=>?_),by simpa using ht',?_⟩
  ·have h1:=hat' j hj
   rw[Addr.add_mid,Addr.add_mid]at h1
   exact h1
  ·have:=JR (d:=D i) (l:=(List.range len).map D) (List.mem_map.2 ⟨i,by simpa using hi,rfl⟩)
   show Rows.uptoBulk (D i)≤_
   omega
end
end Go.Proofs.YtfieenjdcpjmgaaGreatDoor
namespace Go.Proofs.YtfieenjdcpjmgaaGreatDoor
open Go.ChangeShapes Go.WideShapes Go.ChangeAt Go.RowKit Go.WW Go.Deep
theorem wJ{α:Type}{R:Nat→α→Prop}:∀{n:Nat},(∀i,i<n→∃a,R i a)→∃l:List α,l.length=n∧∀i a,l[i]?=some a→R i a
 |0,_=>⟨[],rfl,fun i a h=>by simp at h⟩
 |n+1,h=>by
  obtain⟨l,hl,hr⟩:=wJ (n:=n) (fun i hi=>h i (by omega))
  obtain⟨a,ha⟩:=h n (by omega)
  refine⟨l++[a],by simp[hl],fun i b hb=>?_⟩
  by_cases hi:i<n
  ·rw[List.getElem?_append_left (by omega)]at hb;exact hr i b hb
  ·have hil:=(List.getElem?_eq_some_iff.1 hb).1
   simp[hl]at hil
   obtain rfl:i=n:=by omega
   rw[List.getElem?_append_right (by omega)]at hb
   simp[hl]at hb
   subst hb;exact ha
theorem JS:∀{cs:List Value},cs.length=1→∃c0,cs=[c0]
 | [c0],_=>⟨c0,rfl⟩
theorem afa:∀{cs:List Value},cs.length=2→∃c0 c1,cs=[c0,c1]
 | [c0,c1],_=>⟨c0,c1,rfl⟩
theorem SX:∀{cs:List Value},cs.length=3→∃c0 c1 c2,cs=[c0,c1,c2]
 | [c0,c1,c2],_=>⟨c0,c1,c2,rfl⟩
theorem afb:∀{cs:List Value},cs.length=5→∃c0 c1 c2 c3 c4,cs=[c0,c1,c2,c3,c4]
 | [c0,c1,c2,c3,c4],_=>⟨c0,c1,c2,c3,c4,rfl⟩
theorem afc:∀{cs:List Value},cs.length=10→∃c0 c1 c2 c3 c4 c5 c6 c7 c8 c9,cs=[c0,c1,c2,c3,c4,c5,c6,c7,c8,c9]
 | [c0,c1,c2,c3,c4,c5,c6,c7,c8,c9],_=>⟨c0,c1,c2,c3,c4,c5,c6,c7,c8,c9,rfl⟩
theorem afd:∀{cs:List Value},cs.length=17→∃c0 c1 c2 c3 c4 c5 c6 c7 c8 c9 c10 c11 c12 c13 c14 c15 c16,cs=[c0,c1,c2,c3,c4,c5,c6,c7,c8,c9,c10,c11,c12,c13,c14,c15,c16]
 | [c0,c1,c2,c3,c4,c5,c6,c7,c8,c9,c10,c11,c12,c13,c14,c15,c16],_=>⟨c0,c1,c2,c3,c4,c5,c6,c7,c8,c9,c10,c11,c12,c13,c14,c15,c16,rfl⟩
theorem wK{n:Nat}(h:n≤1048576):n≤lim:=by unfold lim;omega
section
variable {H:Type} {enc:TypeId×Value→H} {w:World} {base:Nat} {spare:Nat→Bool} {held:Bool} {fuel:Nat} {x:DataW H×List MemPlace}
theorem Ai{P:Program}{T:TypeId}{fs:Array Field}{cs:List Value}(ht:P.underlying T=some (.struct fs))(h:DataW.trod enc P w base spare held fuel T cs=some x)(hb:Rows.uptoBulk x.1≤1048576) :
  cs.length=P.cellsOf T∧∃n,∀(i:Nat) (f:Field),fs[i]?=some f→∃y,DataW.trod enc P w base spare held n f.type ((cs.drop f.offset).take (P.cellsOf f.type))=some y∧Rows.uptoBulk y.1≤1048576:=by
 obtain⟨xs,n,_,hx,hlen,hxl,hf⟩:=DataW.trod_struct ht h
 refine⟨hlen,n,fun i f hi=>?_⟩
 have hil:i<xs.length:=by rw[hxl];exact(Array.getElem?_eq_some_iff.1 hi).1
 refine⟨xs[i],by rw[hf i f hi,List.getElem?_eq_getElem hil],?_⟩
 rw[hx]at hb
 simp only[Rows.uptoBulk]at hb
 have:=JR (d:=xs[i].1) (l:=xs.map (·.1)) (List.mem_map.2 ⟨xs[i],List.getElem_mem hil,rfl⟩)
 omega
theorem take_one{cs:List Value}{o:Nat}{c:Value}(h:cs[o]?=some c):(cs.drop o).take 1=[c]:=by
 obtain⟨ho,rfl⟩:=List.getElem?_eq_some_iff.1 h
 rw[List.drop_eq_getElem_cons ho];rfl
theorem CV:Tryz.prog.cellsOf 9=1:=by kernel_rfl
theorem SY:Tryz.prog.cellsOf 5=1:=by kernel_rfl
theorem jF:Tryz.prog.cellsOf 3=1:=by kernel_rfl
theorem afe:Tryz.prog.cellsOf 43=1:=by kernel_rfl
theorem FY:Tryz.prog.cellsOf 40=2:=by kernel_rfl
theorem Tc:Tryz.prog.cellsOf 69=3:=by kernel_rfl
theorem Td:Tryz.prog.cellsOf 67=5:=by kernel_rfl
theorem Tf:Tryz.prog.cellsOf 47=17:=by kernel_rfl
theorem Ti:Tryz.prog.cellsOf 50=10:=by kernel_rfl
theorem aff:Tryz.prog.cellsOf 38=1:=by kernel_rfl
theorem Tj:Tryz.prog.cellsOf 61=1:=by kernel_rfl
theorem JU:Tryz.prog.cellsOf 41=1:=by kernel_rfl
theorem afg:Tryz.prog.cellsOf 44=1:=by kernel_rfl
theorem afh:Tryz.prog.cellsOf 65=1:=by kernel_rfl
theorem afi:Tryz.prog.cellsOf 45=1:=by kernel_rfl
theorem CW{v:Value}(h:DataW.trod enc Tryz.prog w base spare held fuel 9 [v]=some x)(hb:Rows.uptoBulk x.1≤1048576):∃s:ByteArray,v=.string s∧s.size≤lim:=by
 obtain⟨s,hs,hx,_⟩:=DataW.trod_string Tryz.underlying9 h
 refine⟨s,by simpa using hs,?_⟩
 rw[hx]at hb
 simp[Rows.uptoBulk]at hb
 exact wK (by omega)
theorem jG{v:Value}(h:DataW.trod enc Tryz.prog w base spare held fuel 3 [v]=some x):∃n:Int,v=.int .i64 n:=by
 obtain⟨n,hs,_,_⟩:=DataW.trod_int Tryz.underlying3 h
 exact⟨n,by simpa using hs⟩
theorem afj{v:Value}(h:DataW.trod enc Tryz.prog w base spare held fuel 38 [v]=some x)(hb:Rows.uptoBulk x.1≤1048576):∃(s:Sl) (l:List ByteArray),v=.slice s.a l.length s.cap∧kC w s.a l:=by
 obtain⟨s,n,hv,hn,hel⟩:=yl Tryz.underlying38 CV (by omega) h hb
 obtain⟨l,hl,hr⟩:=wJ (R:=fun i (a:ByteArray)=>∃b o,s.a=some ⟨b,o,none⟩∧w.cell? ⟨b,o+i,none⟩=some (.string a)∧a.size≤lim) (n:=n) (fun i hi=>by
  obtain⟨b,o,cs,f',y,ha,hrow,ht,hby⟩:=hel i hi
  have hc:=gJ hrow 0 (by omega)
  have hsz:=xR hrow
  obtain⟨c,hcs⟩:∃c,cs.toList=[c]:=by
   obtain⟨l⟩:=cs
   match l,hsz with
   | [c],_=>exact⟨c,rfl⟩
  rw[hcs]at ht
  obtain⟨a,rfl,hs⟩:=CW ht hby
  refine⟨a,b,o,ha,?_,hs⟩
  have e:cs[0]?=some (.string a):=by rw[←Array.getElem?_toList,hcs];rfl
  rw[e]at hc
  simpa using hc)
 refine⟨s,l,by rw[hl];exact hv,by rw[hl];exact wK hn,fun i hi=>?_⟩
 obtain⟨b,o,h1,h2,h3⟩:=hr i l[i] (List.getElem?_eq_getElem hi)
 exact⟨b,o,_,h1,h2,l[i],List.getElem?_eq_getElem hi,rfl,h3⟩
theorem JV{cs:List Value}(h:DataW.trod enc Tryz.prog w base spare held fuel 40 cs=some x)(hb:Rows.uptoBulk x.1≤1048576):∃(s:Sl) (p:az),cs=(ai s p).toList∧bz w s p:=by
 obtain⟨hl,n,hf⟩:=Ai Tryz.underlying40 h hb
 rw[FY]at hl
 obtain⟨c0,c1,rfl⟩:=afa hl
 obtain⟨y0,t0,b0⟩:=hf 0 _ rfl
 replace t0:DataW.trod enc Tryz.prog w base spare held n 38 (([c0,c1].drop 0).take (Tryz.prog.cellsOf 38))=some y0:=t0
 rw[aff,take_one (c:=c0) rfl]at t0
 obtain⟨y1,t1,b1⟩:=hf 1 _ rfl
 replace t1:DataW.trod enc Tryz.prog w base spare held n 9 (([c0,c1].drop 1).take (Tryz.prog.cellsOf 9))=some y1:=t1
 rw[CV,take_one (c:=c1) rfl]at t1
 obtain⟨s0,n0,rfl,hs0⟩:=afj t0 b0
 obtain⟨n1,rfl,hs1⟩:=CW t1 b1
 exact⟨s0,⟨n0,n1⟩,rfl,hs0,hs1⟩
theorem JW{v:Value}(h:DataW.trod enc Tryz.prog w base spare held fuel 41 [v]=some x)(hb:Rows.uptoBulk x.1≤1048576):∃(s:Sl) (l:List az),v=.slice s.a l.length s.cap∧fF w s.a l:=by
 obtain⟨s,n,hv,hn,hel⟩:=yl Tryz.underlying41 FY (by omega) h hb
 obtain⟨l,hl,hr⟩:=wJ (R:=fun i (a:az)=>∃b o t,s.a=some ⟨b,o,none⟩∧row? w b (o+i*2) 2=some (ai t a)∧bz w t a) (n:=n) (fun i hi=>by
  obtain⟨b,o,cs,f',y,ha,hrow,ht,hby⟩:=hel i hi
  obtain⟨t,p,hcs,hp⟩:=JV ht hby
  exact⟨p,b,o,t,ha,by rw[hrow,←Array.toList_inj.1 hcs],hp⟩)
 refine⟨s,l,by rw[hl];exact hv,by rw[hl];exact wK hn,fun i hi=>?_⟩
 obtain⟨b,o,t,h1,h2,h3⟩:=hr i l[i] (List.getElem?_eq_getElem hi)
 exact⟨b,o,_,h1,h2,l[i],t,List.getElem?_eq_getElem hi,rfl,h3⟩
theorem Tm{v:Value}(h:DataW.trod enc Tryz.prog w base spare held fuel 5 [v]=some x):∃c:UInt8,v=.int .u8 c.toNat:=by
 obtain⟨n,hs,_,hw⟩:=DataW.trod_int Tryz.underlying5 h
 have hw':0≤n∧n≤255:=by
  simp only[Lit.wf,Bool.and_eq_true,decide_eq_true_eq]at hw
  exact⟨hw.1,hw.2⟩
 refine⟨UInt8.ofNat n.toNat,?_⟩
 have e:((UInt8.ofNat n.toNat).toNat:Int)=n:=by
  have:n.toNat<256:=by omega
  rw[UInt8.toNat_ofNat_of_lt' (by simpa using this)];omega
 rw[e];simpa using hs
theorem Tn{v:Value}(h:DataW.trod enc Tryz.prog w base spare held fuel 61 [v]=some x)(hb:Rows.uptoBulk x.1≤1048576):∃(s:Sl) (l:List UInt8),v=.slice s.a l.length s.cap∧BytesAt w s.a l:=by
 obtain⟨s,n,hv,hn,hel⟩:=yl Tryz.underlying61 SY (by omega) h hb
 obtain⟨l,hl,hr⟩:=wJ (R:=fun i (a:UInt8)=>∃b o v,s.a=some ⟨b,o,none⟩∧w.cell? ⟨b,o+i,none⟩=some v∧v=.int .u8 a.toNat) (n:=n) (fun i hi=>by
  obtain⟨b,o,cs,f',y,ha,hrow,ht,hby⟩:=hel i hi
  have hc:=gJ hrow 0 (by omega)
  obtain⟨c,hcs⟩:=JS (cs:=cs.toList) (by simpa using xR hrow)
  have e:cs[0]?=some c:=by rw[←Array.getElem?_toList,hcs];rfl
  rw[hcs]at ht
  rw[e]at hc
  obtain⟨a,rfl⟩:=Tm ht
  exact⟨a,b,o,_,ha,by simpa using hc,rfl⟩)
 refine⟨s,l,by rw[hl];exact hv,by rw[hl];exact wK hn,fun i hi=>?_⟩
 obtain⟨b,o,v,h1,h2,h3⟩:=hr i l[i] (List.getElem?_eq_getElem hi)
 exact⟨b,o,v,h1,h2,l[i],List.getElem?_eq_getElem hi,h3⟩
theorem afk{cs:List Value}(h:DataW.trod enc Tryz.prog w base spare held fuel 69 cs=some x)(hb:Rows.uptoBulk x.1≤1048576):∃(s:Sl) (p:Key),cs=(bW s p).toList∧kD w s p:=by
 obtain⟨hl,n,hf⟩:=Ai Tryz.underlying69 h hb
 rw[Tc]at hl
 obtain⟨c0,c1,c2,rfl⟩:=SX hl
 obtain⟨y0,t0,b0⟩:=hf 0 _ rfl
 replace t0:DataW.trod enc Tryz.prog w base spare held n 3 (([c0,c1,c2].drop 0).take (Tryz.prog.cellsOf 3))=some y0:=t0
 rw[jF,take_one (c:=c0) rfl]at t0
 obtain⟨y1,t1,b1⟩:=hf 1 _ rfl
 replace t1:DataW.trod enc Tryz.prog w base spare held n 3 (([c0,c1,c2].drop 1).take (Tryz.prog.cellsOf 3))=some y1:=t1
 rw[jF,take_one (c:=c1) rfl]at t1
 obtain⟨y2,t2,b2⟩:=hf 2 _ rfl
 replace t2:DataW.trod enc Tryz.prog w base spare held n 61 (([c0,c1,c2].drop 2).take (Tryz.prog.cellsOf 61))=some y2:=t2
 rw[Tj,take_one (c:=c2) rfl]at t2
 obtain⟨n0,rfl⟩:=jG t0
 clear b0
 obtain⟨n1,rfl⟩:=jG t1
 clear b1
 obtain⟨s2,n2,rfl,hs2⟩:=Tn t2 b2
 exact⟨s2,⟨n0,n1,n2⟩,rfl,hs2⟩
theorem afl{v:Value}(h:DataW.trod enc Tryz.prog w base spare held fuel 65 [v]=some x)(hb:Rows.uptoBulk x.1≤1048576):∃(s:Sl) (l:List Key),v=.slice s.a l.length s.cap∧kP w s.a l:=by
 obtain⟨s,n,hv,hn,hel⟩:=yl Tryz.underlying65 Tc (by omega) h hb
 obtain⟨l,hl,hr⟩:=wJ (R:=fun i (a:Key)=>∃b o t,s.a=some ⟨b,o,none⟩∧row? w b (o+i*3) 3=some (bW t a)∧kD w t a) (n:=n) (fun i hi=>by
  obtain⟨b,o,cs,f',y,ha,hrow,ht,hby⟩:=hel i hi
  obtain⟨t,p,hcs,hp⟩:=afk ht hby
  exact⟨p,b,o,t,ha,by rw[hrow,←Array.toList_inj.1 hcs],hp⟩)
 refine⟨s,l,by rw[hl];exact hv,by rw[hl];exact wK hn,fun i hi=>?_⟩
 obtain⟨b,o,t,h1,h2,h3⟩:=hr i l[i] (List.getElem?_eq_getElem hi)
 exact⟨b,o,_,h1,h2,l[i],t,List.getElem?_eq_getElem hi,rfl,h3⟩
theorem afm{cs:List Value}(h:DataW.trod enc Tryz.prog w base spare held fuel 67 cs=some x)(hb:Rows.uptoBulk x.1≤1048576):∃(s:Sl) (p:bn),cs=(aZ s p).toList∧jq w s p:=by
 obtain⟨hl,n,hf⟩:=Ai Tryz.underlying67 h hb
 rw[Td]at hl
 obtain⟨c0,c1,c2,c3,c4,rfl⟩:=afb hl
 obtain⟨y0,t0,b0⟩:=hf 0 _ rfl
 replace t0:DataW.trod enc Tryz.prog w base spare held n 3 (([c0,c1,c2,c3,c4].drop 0).take (Tryz.prog.cellsOf 3))=some y0:=t0
 rw[jF,take_one (c:=c0) rfl]at t0
 obtain⟨y1,t1,b1⟩:=hf 1 _ rfl
 replace t1:DataW.trod enc Tryz.prog w base spare held n 65 (([c0,c1,c2,c3,c4].drop 1).take (Tryz.prog.cellsOf 65))=some y1:=t1
 rw[afh,take_one (c:=c1) rfl]at t1
 obtain⟨y2,t2,b2⟩:=hf 2 _ rfl
 replace t2:DataW.trod enc Tryz.prog w base spare held n 9 (([c0,c1,c2,c3,c4].drop 2).take (Tryz.prog.cellsOf 9))=some y2:=t2
 rw[CV,take_one (c:=c2) rfl]at t2
 obtain⟨y3,t3,b3⟩:=hf 3 _ rfl
 replace t3:DataW.trod enc Tryz.prog w base spare held n 3 (([c0,c1,c2,c3,c4].drop 3).take (Tryz.prog.cellsOf 3))=some y3:=t3
 rw[jF,take_one (c:=c3) rfl]at t3
 obtain⟨y4,t4,b4⟩:=hf 4 _ rfl
 replace t4:DataW.trod enc Tryz.prog w base spare held n 3 (([c0,c1,c2,c3,c4].drop 4).take (Tryz.prog.cellsOf 3))=some y4:=t4
 rw[jF,take_one (c:=c4) rfl]at t4
 obtain⟨n0,rfl⟩:=jG t0
 clear b0
 obtain⟨s1,n1,rfl,hs1⟩:=afl t1 b1
 obtain⟨n2,rfl,hs2⟩:=CW t2 b2
 obtain⟨n3,rfl⟩:=jG t3
 clear b3
 obtain⟨n4,rfl⟩:=jG t4
 clear b4
 exact⟨s1,⟨n0,n1,n2,n3,n4⟩,rfl,hs1,hs2⟩
theorem afn{v:Value}(h:DataW.trod enc Tryz.prog w base spare held fuel 44 [v]=some x)(hb:Rows.uptoBulk x.1≤1048576):∃(s:Sl) (l:List bn),v=.slice s.a l.length s.cap∧mg w s.a l:=by
 obtain⟨s,n,hv,hn,hel⟩:=yl Tryz.underlying44 Td (by omega) h hb
 obtain⟨l,hl,hr⟩:=wJ (R:=fun i (a:bn)=>∃b o t,s.a=some ⟨b,o,none⟩∧row? w b (o+i*5) 5=some (aZ t a)∧jq w t a) (n:=n) (fun i hi=>by
  obtain⟨b,o,cs,f',y,ha,hrow,ht,hby⟩:=hel i hi
  obtain⟨t,p,hcs,hp⟩:=afm ht hby
  exact⟨p,b,o,t,ha,by rw[hrow,←Array.toList_inj.1 hcs],hp⟩)
 refine⟨s,l,by rw[hl];exact hv,by rw[hl];exact wK hn,fun i hi=>?_⟩
 obtain⟨b,o,t,h1,h2,h3⟩:=hr i l[i] (List.getElem?_eq_getElem hi)
 exact⟨b,o,_,h1,h2,l[i],t,List.getElem?_eq_getElem hi,rfl,h3⟩
theorem afo{v:Value}(h:DataW.trod enc Tryz.prog w base spare held fuel 45 [v]=some x)(hb:Rows.uptoBulk x.1≤1048576):∃(s:Sl) (l:List (List UInt8)),v=.slice s.a l.length s.cap∧fG w s.a l:=by
 obtain⟨s,n,hv,hn,hel⟩:=yl Tryz.underlying45 Tj (by omega) h hb
 obtain⟨l,hl,hr⟩:=wJ (R:=fun i (a:(List UInt8))=>∃b o v,s.a=some ⟨b,o,none⟩∧w.cell? ⟨b,o+i,none⟩=some v∧∃s':Sl,v=.slice s'.a a.length s'.cap∧BytesAt w s'.a a) (n:=n) (fun i hi=>by
  obtain⟨b,o,cs,f',y,ha,hrow,ht,hby⟩:=hel i hi
  have hc:=gJ hrow 0 (by omega)
  obtain⟨c,hcs⟩:=JS (cs:=cs.toList) (by simpa using xR hrow)
  have e:cs[0]?=some c:=by rw[←Array.getElem?_toList,hcs];rfl
  rw[hcs]at ht
  rw[e]at hc
  obtain⟨s',a,rfl,hs'⟩:=Tn ht hby
  exact⟨a,b,o,_,ha,by simpa using hc,s',rfl,hs'⟩)
 refine⟨s,l,by rw[hl];exact hv,by rw[hl];exact wK hn,fun i hi=>?_⟩
 obtain⟨b,o,v,h1,h2,h3⟩:=hr i l[i] (List.getElem?_eq_getElem hi)
 obtain⟨s',h4,h5⟩:=h3
 exact⟨b,o,v,h1,h2,l[i],s',List.getElem?_eq_getElem hi,h4,h5⟩
end
end Go.Proofs.YtfieenjdcpjmgaaGreatDoor
