/- A part of the proof. -/
import Derived.Test.YtfieenjdcpjmgaaGreatDoorB07
import Derived.RangeFuncOwn
import Derived.Test.YtfieenjdcpjmgaaGreatDoorRows
import Derived.Deep.Slices
import Derived.ChangeArms
import Derived.ProofKit
import Derived.OpenShut
set_option maxRecDepth 100000
set_option maxHeartbeats 8000000
namespace Go.WW
def CS(x:bC):Bool:=decide (0<x.dK) || x.di.toList.isEmpty
theorem afi{x:bC}(h1:aF x.version 1 65535=true)(h2:aF x.keys.length 1 4=true):jc x=(decide ((x.di.size:Int)≤256)&&aF x.dK 0 65536&&CS x&&aF x.created 0 1099511627776):=by
 rw[jc,h1,h2,CS];rfl
end Go.WW
namespace Go.Proofs.YtfieenjdcpjmgaaGreatDoor
open Go.RowKit Go.WW
theorem afj(s:Sl)(x:bC)(m:Int)(w:World)(hx:jA w s x):Calls Tryz.prog 202 #[.agg (bz s x),.int .i64 m] w fun e w'=>e=.returned (.bool (iw m x))∧Below w.heap.size w w':=by
 have hn:x.keys.length≤4294967000:=hx.1.1
 have hs:x.di.size≤4294967000:=hx.2
 have hB:Below w.heap.size w ((w.alloc (.cells (bz s x) 67)).alloc (.cells #[.int .i64 m] 3)):=((Below.refl _ w).alloc (Nat.le_refl _) _).alloc (by simp) _
 have Tn:=hx.later hB
 have g0:((w.alloc (.cells (bz s x) 67)).alloc (.cells #[.int .i64 m] 3)).cell? ⟨w.heap.size,0,none⟩=some (.int .i64 x.version):=by simp[go_sem]
 have g1:((w.alloc (.cells (bz s x) 67)).alloc (.cells #[.int .i64 m] 3)).cell? ⟨w.heap.size+1,0,none⟩=some (.int .i64 m):=by simp[go_sem]
 have hlim:∀k∈x.keys,k.bytes.length≤lim:=fun k hk=>by
  obtain⟨i,hi,rfl⟩:=List.mem_iff_getElem.1 hk
  obtain⟨_,_,_,_,_,h3⟩:=hx.1.get i hi
  exact h3.1
 have HF:=Lib.hid (aem s.a s.cap 278 4 x.keys w.heap.size (w.heap.size+1) (iL m x.version) _ ae4 Tn.1 (fun y t p hp _=>ae3 t p _ _ m x.version y.w (hlim p hp) ((y.b.cell (p:=⟨w.heap.size,0,none⟩) (by simp;omega)).trans g0) ((y.b.cell (p:=⟨w.heap.size+1,0,none⟩) (by simp)).trans g1)))
 have HL:=Lib.hid hlim
 clear g0 g1 hlim
 go_enter Tryz.func202,Tryz.ntmps202
 cases c1:aF x.version 1 65535
 ·have HN:=Lib.hid (aeX (m:=m) c1)
  go_wp2_with (go_at_call 118;refine(uO _ _ _ _).mono ?_;rintro e w' ⟨rfl,rfl⟩)
  go_ret
  exact⟨by rw[HN.out];rfl,hB⟩
 cases c2:decide (1≤(x.keys.length:Int))
 ·have HN:=Lib.hid (aeY (m:=m) c2)
  have c2':decide (1≤x.keys.length)=false:=by rw[decide_eq_false_iff_not]at c2 ⊢;omega
  go_wp2_with (go_at_call 118;refine(uO _ _ _ _).mono ?_;rintro e w' ⟨rfl,rfl⟩)
  go_ret
  exact⟨by rw[HN.out];rfl,hB⟩
 have c2':decide (1≤x.keys.length)=true:=by rw[decide_eq_true_eq]at c2 ⊢;omega
 go_wp2_with (go_at_call 118;refine(uO _ _ _ _).mono ?_;rintro e w' ⟨rfl,rfl⟩)
 refine(HF.out).mono ?_
 rintro e w1 ⟨rfl,hb1⟩
 have hB1:=ag hB hb1
 obtain⟨hcc,aT,hrr⟩:=bg hb1
 have hsz:w.heap.size+1<w1.heap.size:=by have:=hb1.size;simp at this;omega
 cases c3:(decide ((x.keys.length:Int)≤4)&&x.keys.all (iL m x.version))
 ·have HN:=Lib.hid (aeZ c3)
  go_wp2_with fail
  go_ret
  exact⟨by rw[HN.out];rfl,hB1⟩
 go_wp2_with fail
 refine(aes _ _ _ _ (hx.1.later hB1)).mono ?_
 rintro e w2 ⟨rfl,hb2⟩
 have hB2:=ag hB1 hb2
 clear hcc aT hrr
 have hbb:Below ((w.alloc (.cells (bz s x) 67)).alloc (.cells #[.int .i64 m] 3)).heap.size ((w.alloc (.cells (bz s x) 67)).alloc (.cells #[.int .i64 m] 3)) w2:=ag hb1 hb2
 obtain⟨hcc,aT,hrr⟩:=bg hbb
 have hsz2:w.heap.size+1<w2.heap.size:=by have:=hbb.size;simp at this;omega
 cases c4:ordered mQ x.keys
 ·have HN:=Lib.hid (ae0 (m:=m) c4)
  go_wp2_with fail
  go_ret
  exact⟨by rw[HN.out];rfl,hB2⟩
 obtain⟨hy1,hy2⟩:=ae1 c2 c3 c4
 have HN:=Lib.hid (hy1.trans (afi c1 hy2))
 clear hy1 hy2 Tn hx hb1 hb2 hbb hB1 hB
 cases c5:decide ((x.di.size:Int)≤256)
 ·have c5':decide (x.di.size≤256)=false:=by rw[decide_eq_false_iff_not]at c5 ⊢;omega
  go_wp2_with fail
  go_ret
  exact⟨by rw[HN.out,c5];rfl,hB2⟩
 have c5':decide (x.di.size≤256)=true:=by rw[decide_eq_true_eq]at c5 ⊢;omega
 cases c6:aF x.dK 0 65536
 ·go_wp2_with (go_at_call 118;refine(uO _ _ _ _).mono ?_;rintro e w' ⟨rfl,rfl⟩)
  go_ret
  exact⟨by rw[HN.out,c5,c6];rfl,hB2⟩
 cases c7:decide (0<x.dK)
 ·cases c8:x.di.toList.isEmpty
  ·have c8':¬x.di.toList=[]:=by simpa using c8
   go_wp2_with (go_at_call 118;refine(uO _ _ _ _).mono ?_;rintro e w' ⟨rfl,rfl⟩)
   go_ret
   exact⟨by rw[HN.out,c5,c6,CS,c7,c8];rfl,hB2⟩
  ·have c8':x.di.toList=[]:=by simpa using c8
   go_wp2_with (go_at_call 118;refine(uO _ _ _ _).mono ?_;rintro e w' ⟨rfl,rfl⟩)
   go_ret
   exact⟨by rw[HN.out,c5,c6,CS,c7,c8];rfl,hB2⟩
 ·go_wp2_with (go_at_call 118;refine(uO _ _ _ _).mono ?_;rintro e w' ⟨rfl,rfl⟩)
  go_ret
  exact⟨by rw[HN.out,c5,c6,CS,c7];rfl,hB2⟩
theorem afm(s:Sl)(x:bC)(B:Nat)(m:Int)(w:World)(hx:jA w s x)(h:w.cell? ⟨B,4,none⟩=some (.int .i64 m)):Calls Tryz.prog 201 #[.agg (bz s x),.pointer (some ⟨B,0,none⟩)] w fun e w'=>e=.returned (.bool (iw m x))∧Below w.heap.size w w':=by
 have hb:B<w.heap.size:=World.block_lt_of_cell? w _ h
 have hB:Below w.heap.size w (w.alloc (.cells (bz s x) 67)):=(Below.refl _ w).alloc (Nat.le_refl _) _
 go_enter Tryz.func201,Tryz.ntmps201
 go_wp2_with fail
 refine(afj _ _ _ _ (hx.later hB)).mono ?_
 rintro e w1 ⟨rfl,hb1⟩
 go_wp2_with fail
 go_ret
 exact⟨rfl,ag hB hb1⟩
theorem afn:Enters 201:=⟨fun args w=>by kernel_rfl⟩
def wR(d:Entry):Bool:=(decide ((d.keys.length:Int)≤16)&&d.keys.all (iw d.dS))&&ordered kK d.keys
theorem afo(r:aN)(d:Entry)(w:World)(he:bK w r d):Calls Tryz.prog 120 #[.agg (ae r d)] w fun e w'=>e=.returned (.bool (wR d))∧Below w.heap.size w w':=by
 have hB:Below w.heap.size w (w.alloc (.cells (ae r d) 47)):=(Below.refl _ w).alloc (Nat.le_refl _) _
 have hk:=he.keys.later hB
 have g:(w.alloc (.cells (ae r d) 47)).cell? ⟨w.heap.size,4,none⟩=some (.int .i64 d.dS):=by simp[go_sem]
 have HF:=Lib.hid (aek r.keys.a r.keys.cap 201 16 d.keys w.heap.size (iw d.dS) _ afn hk (fun y t p _ hp=>afm t p _ d.dS y.w hp ((y.b.cell (p:=⟨w.heap.size,4,none⟩) (by simp)).trans g)))
 clear g hk
 go_enter Tryz.func120,Tryz.ntmps120
 go_wp2_with fail
 refine(HF.out).mono ?_
 rintro e w1 ⟨rfl,hb1⟩
 have hB1:=ag hB hb1
 obtain⟨hcc,aT,hrr⟩:=bg hb1
 have hsz:w.heap.size<w1.heap.size:=by have:=hb1.size;simp at this;omega
 cases c1:(decide ((d.keys.length:Int)≤16)&&d.keys.all (iw d.dS))
 ·have HN:=Lib.hid (show wR d=false by rw[wR,c1];rfl)
  go_wp2_with fail
  go_ret
  exact⟨by rw[HN.out];rfl,hB1⟩
 ·have HN:=Lib.hid (show wR d=ordered kK d.keys by rw[wR,c1];rfl)
  go_wp2_with fail
  refine(aeu _ _ _ _ (he.keys.later hB1)).mono ?_
  rintro e w2 ⟨rfl,hb2⟩
  go_wp2_with fail
  go_ret
  exact⟨by rw[HN.out];rfl,ag hB1 hb2⟩
theorem afp:Enters 197:=⟨fun args w=>by kernel_rfl⟩
theorem Tq(a:Option Addr)(cap:Nat)(l:List az)(w:World)(hl:fJ w a l):Calls Tryz.prog 122 #[.slice a l.length cap] w fun e w'=>e=.returned (.bool (different l))∧Below w.heap.size w w':=by
 have HF:=Lib.hid (aeg a cap 197 16 l bG _ afp hl (fun y t p _ hp=>Ai t p y.w hp))
 have HE:=Lib.hid (aea l)
 go_enter Tryz.func122,Tryz.ntmps122
 go_wp2_with fail
 refine(HF.out).mono ?_
 rintro e w1 ⟨rfl,hb1⟩
 cases c1:(decide ((l.length:Int)≤16)&&l.all bG)
 ·have HN:=Lib.hid (show different l=false by rw[←HE.out,c1];rfl)
  go_wp2_with fail
  go_ret
  exact⟨by rw[HN.out];rfl,hb1⟩
 ·have HN:=Lib.hid (show different l=uQ l by rw[←HE.out,c1];rfl)
  have hall:l.all bG=true:=by rw[Bool.and_eq_true]at c1;exact c1.2
  have HA:=Lib.hid hall
  clear hall
  go_wp2_with fail
  refine(Tj _ _ _ _ (hl.later hb1) HA.out).mono ?_
  rintro e w2 ⟨rfl,hb2⟩
  go_wp2_with fail
  go_ret
  exact⟨by rw[HN.out];rfl,ag hb1 hb2⟩
end Go.Proofs.YtfieenjdcpjmgaaGreatDoor
namespace Go.WW
open Go.RowKit
theorem aX.src{w:World}{k n:Nat}{a:Option Addr}{R:Nat→Array Value→Prop}(h:aX w k a n R)(hR:∀i cs,R i cs→cs.size=k∧dJ cs=true) :
  ∃rows,rows.length=n∧cZ w k a rows∧∀i (hi:i<rows.length),R i rows[i]:=by
 rcases Nat.eq_zero_or_pos n with h0|h0
 ·subst h0;exact⟨[],rfl,⟨by simp,by simp,fun i hi=>by simp at hi⟩,fun i hi=>by simp at hi⟩
 ·obtain⟨b,o,_,ha,_⟩:=h.2 0 h0
  have key:∀i,i<n→∃cs,row? w b (o+i*k) k=some cs∧R i cs:=fun i hi=>by
   obtain⟨b',o',cs,ha',hr,hc⟩:=h.2 i hi
   rw[ha]at ha';cases ha'
   exact⟨cs,hr,hc⟩
  have hg:∀i (hi:i<((List.range n).map fun i=>(row? w b (o+i*k) k).getD #[]).length),∃cs,((List.range n).map fun i=>(row? w b (o+i*k) k).getD #[])[i]=cs∧row? w b (o+i*k) k=some cs∧R i cs:=fun i hi=>by
   have hi':i<n:=by simpa using hi
   obtain⟨cs,h1,h2⟩:=key i hi'
   exact⟨cs,by simp[h1],h1,h2⟩
  refine⟨(List.range n).map fun i=>(row? w b (o+i*k) k).getD #[],by simp,⟨fun r hr=>?_,fun r hr=>?_,fun i hi=>?_⟩,fun i hi=>?_⟩
  ·obtain⟨i,hi,rfl⟩:=List.mem_iff_getElem.1 hr
   obtain⟨cs,e,_,h2⟩:=hg i hi
   rw[e];exact(hR i cs h2).1
  ·obtain⟨i,hi,rfl⟩:=List.mem_iff_getElem.1 hr
   obtain⟨cs,e,_,h2⟩:=hg i hi
   rw[e];exact(hR i cs h2).2
  ·obtain⟨cs,e,h1,_⟩:=hg i hi
   exact⟨b,o,ha,by rw[e];exact h1⟩
  ·obtain⟨cs,e,_,h2⟩:=hg i hi
   rw[e];exact h2
theorem aX.eG{w:World}{base k n:Nat}{e:TypeId}{s:Sl}{rows:List (Array Value)}{R:Nat→Array Value→Prop}(h:Own w base e k s rows)(hl:rows.length=n)(hn:n≤lim)(hR:∀i (hi:i<rows.length),R i rows[i]):aX w k s.a n R:=by
 subst hl
 refine⟨hn,fun i hi=>?_⟩
 obtain⟨g,ha,_,hrow⟩:=h.row i hi
 exact⟨g,0,rows[i],ha,hrow,hR i hi⟩
theorem afq{w:World}{b o:Nat}{v:Value}(h:w.cell? ⟨b,o,none⟩=some v):row? w b o 1=some #[v]:=by
 have hlt:=World.block_lt_of_cell? w _ h
 unfold row?
 cases hb:w.heap[b]? with
 |none=>exfalso;simp[World.cell?,hb]at h
 |some ob=>
  cases ob with
  |cells c t f=>
   rw[cell_of_row w b o c t f hb]at h
   have ho:=(Array.getElem?_eq_some_iff.1 h).1
   show(if o+1≤c.size then _ else _)=_
   rw[if_pos (by omega)]
   congr 1
   apply Array.ext_getElem?
   intro j
   rw[Array.getElem?_extract]
   by_cases hj:j=0
   ·subst hj;rw[if_pos (by omega)];simpa using h
   ·rw[if_neg (by omega)];simp;omega
  |_=>exfalso;simp[World.cell?,hb]at h
theorem dY.src{w:World}{n:Nat}{a:Option Addr}{R:Nat→Value→Prop}(h:dY w a n R)(hR:∀i v,R i v→v.oneCell'=true) :
  ∃rows,rows.length=n∧cZ w 1 a rows∧∀i (hi:i<rows.length),∃v,rows[i]=#[v]∧R i v:=by
 have h':aX w 1 a n (fun i cs=>∃v,cs=#[v]∧R i v):=⟨h.1,fun i hi=>by
  obtain⟨b,o,v,ha,hc,hr⟩:=h.2 i hi
  exact⟨b,o,#[v],ha,by rw[Nat.mul_one];exact afq hc,v,rfl,hr⟩⟩
 obtain⟨rows,h1,h2,h3⟩:=h'.src (fun i cs ⟨v,e,hr⟩=>by subst e;exact⟨rfl,by simp[dJ,hR i v hr]⟩)
 exact⟨rows,h1,h2,h3⟩
theorem dY.eG{w:World}{base n:Nat}{e:TypeId}{s:Sl}{rows:List (Array Value)}{R:Nat→Value→Prop}(h:Own w base e 1 s rows)(hl:rows.length=n)(hn:n≤lim)(hR:∀i (hi:i<rows.length),∃v,rows[i]=#[v]∧R i v):dY w s.a n R:=by
 subst hl
 refine⟨hn,fun i hi=>?_⟩
 obtain⟨g,ha,_,hrow⟩:=h.row i hi
 obtain⟨v,e,hr⟩:=hR i hi
 refine⟨g,0,v,ha,?_,hr⟩
 have:=gX hrow 0 (by omega)
 rw[e,Nat.mul_one]at this
 simpa using this
theorem afr{P:Program}{ops:Array Oper}{rest:List Oper}{o:Oper}{a:Act}{w:World}{Q:Exit→Act→World→Prop}(hw:Region.wanted o (yielded ops a.tmps)=true)(x y:Operand)(t:TypeId)(ho:o.op=.call {callee:=.builtin .append,args:=#[x,y],argTypes:=#[t,t]})
  {e:TypeId} {k bytes:Nat} (he:gp P t e k bytes) {base:Nat} {s:Sl} {n:Nat} {rows:List (Array Value)} (hx:a.eval x=.slice s.a n s.cap) (hn:n=rows.length) (h:Own w base e k s rows) {A:Option Addr} {news:List (Array Value)} {m c:Nat}
  (hy:a.eval y=.slice A m c) (hm:m=news.length) (hs:cZ w k A news) (hlen:(rows.length+news.length)*(bytes+1)≤140737488355328) (hbase:base≤w.heap.size)
  (hK:∀(s':Sl) w',Own w' base e k s' (rows++news)→w.grownBy w' s.blk→(s'.blk=s.blk∨s'.blk=some w.heap.size)→wpList P ops Q rest (a.put o.dst (.slice s'.a (n+m) s'.cap)) w'):wpList P ops Q (o::rest) a w:=by
 subst hn hm
 refine wpList_step fun K hK'=>?_
 rw[if_pos hw]
 exact J5 x y t ho he hx h hy rfl hs hlen hbase fun s' w' h2 h3 h4=>hK' _ _ (hK s' w' h2 h3 h4)
theorem Own.one(w:World)(cs:Array Value)(t:TypeId)(k:Nat)(hs:cs.size=k):Own (w.alloc (.cells cs t)) w.heap.size t k ⟨some ⟨w.heap.size,0,none⟩,1⟩ [cs]:=by
 refine⟨⟨by simp[flat,hs],.inr ⟨w.heap.size,1,cs,rfl,Nat.le_refl _,World.alloc_heap_new w _,Nat.le_refl _,by unfold maxLen;omega,by simp[hs],?_⟩⟩,by simpa using hs⟩
 simp only[flat,List.flatMap_cons,List.flatMap_nil,List.append_nil,List.length_singleton,Nat.one_mul]
 exact List.take_of_length_le (by simp[hs])
theorem CU{w:World}{l:List az}(i:Nat)(cs:Array Value)(h:∃p s,l[i]?=some p∧cs=ah s p∧bn w s p):cs.size=2∧dJ cs=true:=by
 obtain⟨p,s,_,rfl,_⟩:=h;exact⟨uN s p,QH s p⟩
end Go.WW
namespace Go.Proofs.YtfieenjdcpjmgaaGreatDoor
open Go.RowKit Go.WW
theorem afs:Enters 196:=⟨fun args w=>by kernel_rfl⟩
theorem aft(s:Sl)(p n:az)(B:Nat)(w:World)(hp:bn w s p)(h:w.cell? ⟨B,1,none⟩=some (.string n.aG)):Calls Tryz.prog 196 #[.agg (ah s p),.pointer (some ⟨B,0,none⟩)] w fun e w'=>e=.returned (.bool (rf n p))∧Below w.heap.size w w':=by
 have hb:B<w.heap.size:=World.block_lt_of_cell? w _ h
 have hB:Below w.heap.size w (w.alloc (.cells (ah s p) 40)):=(Below.refl _ w).alloc (Nat.le_refl _) _
 go_enter Tryz.func196,Tryz.ntmps196
 go_wp2_with fail
 refine(Ai _ _ _ (hp.later hB)).mono ?_
 rintro e w1 ⟨rfl,hb1⟩
 have hB1:=ag hB hb1
 obtain⟨hcc,aT,hrr⟩:=bg hb1
 have hsz:w.heap.size<w1.heap.size:=by have:=hb1.size;simp at this;omega
 cases c1:bG p
 ·have HN:=Lib.hid (show rf n p=false by rw[rf,c1];rfl)
  go_wp2_with fail
  go_ret
  exact⟨by rw[HN.out];rfl,hB1⟩
 ·have HN:=Lib.hid (show rf n p=(p.aG.toList == n.aG.toList) by
   rw[rf,c1]
   by_cases h':p.aG=n.aG
   ·rw[str_eq _ _ h'];simp[h']
   ·rw[lu _ _ h'];simp[h'])
  go_wp2_with fail
  go_ret
  exact⟨by rw[HN.out];rfl,hB1⟩
theorem afu:gp Tryz.prog 41 40 2 40:=gp.of Tryz.underlying41 (by kernel_rfl)
theorem cZ.alloc{w:World}{k:Nat}{A:Option Addr}{rows:List (Array Value)}(h:cZ w k A rows)(ob:Obj):cZ (w.alloc ob) k A rows:=
 ⟨h.size,h.one,fun i hi=>by obtain⟨b,o,h1,h2⟩:=h.at_ i hi;exact⟨b,o,h1,by rw[Qy (gm h2)];exact h2⟩⟩
theorem afv(r:aN)(d:Entry)(w:World)(he:bK w r d):Calls Tryz.prog 119 #[.agg (ae r d)] w fun e w'=>e=.returned (.bool (rq d))∧Below w.heap.size w w':=by
 have hB:Below w.heap.size w (w.alloc (.cells (ae r d) 47)):=(Below.refl _ w).alloc (Nat.le_refl _) _
 have hA:=he.aliases.later hB
 have hal:d.aliases.length≤4294967000:=he.aliases.1
 have g:(w.alloc (.cells (ae r d) 47)).cell? ⟨w.heap.size,1,none⟩=some (.string d.name.aG):=by simp[go_sem]
 have HF:=Lib.hid (fun(w1:World) (hb1:Below (w.alloc (.cells (ae r d) 47)).heap.size (w.alloc (.cells (ae r d) 47)) w1)=>aei r.aliases.a r.aliases.cap 196 16 d.aliases w.heap.size (rf d.name) w1 afs (hA.later hb1) (fun y t p _ hp=>aft t p d.name _ y.w hp (((ag hb1 y.b).cell (p:=⟨w.heap.size,1,none⟩) (by simp)).trans g)))
 clear g hA
 go_enter Tryz.func119,Tryz.ntmps119
 go_wp2_with fail
 refine(Ai _ _ _ (he.name.later hB)).mono ?_
 rintro e w1 ⟨rfl,hb1⟩
 have hB1:=ag hB hb1
 obtain⟨hcc,aT,hrr⟩:=bg hb1
 have hsz:w.heap.size<w1.heap.size:=by have:=hb1.size;simp at this;omega
 cases c1:bG d.name
 ·have HN:=Lib.hid (show rq d=false by rw[rq,c1];rfl)
  go_wp2_with fail
  go_ret
  exact⟨by rw[HN.out];rfl,hB1⟩
 go_wp2_with fail
 refine(HF.out w1 hb1).mono ?_
 rintro e w2 ⟨rfl,hb2⟩
 have hb2':=ag hb1 hb2
 have hB2:=ag hB1 hb2
 clear hcc aT hrr hsz
 obtain⟨hcc,aT,hrr⟩:=bg hb2'
 have hsz:w.heap.size<w2.heap.size:=by have:=hb2'.size;simp at this;omega
 cases c2:(decide ((d.aliases.length:Int)≤16)&&d.aliases.all (rf d.name))
 ·have HN:=Lib.hid (show rq d=false by rw[rq,c1,c2];rfl)
  go_wp2_with fail
  go_ret
  exact⟨by rw[HN.out];rfl,hB2⟩
 have HN:=Lib.hid (show rq d=uQ (d.name::d.aliases) by rw[rq,c1,c2];rfl)
 have HO:=Lib.hid (show(d.name::d.aliases).all bG=true by
  rw[Bool.and_eq_true,List.all_eq_true]at c2
  rw[List.all_cons,c1,Bool.true_and,List.all_eq_true]
  intro a ha
  have:=c2.2 a ha
  rw[rf,Bool.and_eq_true]at this
  exact this.1)
 obtain⟨rows,hlr,oV,hrR⟩:=aX.src (he.aliases.later hB2) CU
 have nI:=Lib.hid hlr
 have HRR:=Lib.hid hrR
 have Tt:=cZ.alloc oV (.cells (ah r.parts d.name) 40)
 have hown:=Own.one w2 (ah r.parts d.name) 40 2 (uN _ _)
 clear hlr hrR
 go_wp2_with (at_builtin;refine afr rfl (.tmp 17) (.tmp 19) _ rfl afu (n:=1) (s:=⟨some ⟨w2.heap.size,0,none⟩,1⟩) rfl rfl hown rfl nI.out.symm Tt (by rw[nI.out];simp;omega) (by simp) ?_;intro s3 w3 hown3 hg3 gJ)
 have hb3:Below w2.heap.size w2 w3:=((Below.refl _ w2).alloc (Nat.le_refl _) _).grown hg3 (by simp) (fun k e=>by cases e;exact Nat.le_refl _)
 have apO:d.aliases.length≤16:=by rw[Bool.and_eq_true,decide_eq_true_eq]at c2;omega
 have hP3:fJ w3 s3.a (d.name::d.aliases):=by
  refine aX.eG hown3 (by have:=nI.out;simp;omega) (by unfold lim;simp;omega) ?_
  intro i hi
  cases i with
  |zero=>exact⟨d.name,r.parts,rfl,rfl,(he.name.later hB2).later hb3⟩
  |succ i=>
   have hi':i<rows.length:=by simpa using hi
   obtain⟨p,s,h1,h2,h3⟩:=HRR.out i hi'
   exact⟨p,s,by simpa using h1,by simpa using h2,h3.later hb3⟩
 have HD:=Tj s3.a s3.cap _ _ hP3 HO.out
 rw[List.length_cons,Nat.add_comm]at HD
 refine HD.mono ?_
 rintro e w4 ⟨rfl,hb4⟩
 clear hcc aT hrr oV Tt hown hown3 hg3 gJ
 go_wp2_with fail
 go_ret
 exact⟨by rw[HN.out];rfl,ag (ag hB2 hb3) hb4⟩
end Go.Proofs.YtfieenjdcpjmgaaGreatDoor
namespace Go.WW
open Go.RowKit
def CV(ops:Array Oper)(o:Oper)(a:Act):Option Act:=
 if Region.wanted o (yielded ops a.tmps)then
  match o.op with
  | .move x=>some (a.put o.dst (a.eval x))
  | .assign x=>some (a.put o.dst (a.eval x))
  | .pick c x y=>match a.eval c with | .bool b=>some (a.put o.dst (if b then a.eval x else a.eval y))|_=>none
  |_=>none
 else some (a.put o.dst undef)
def yx(ops:Array Oper):List Oper→Act→Option Act
 | [],a=>some a
 |o::l,a=>match CV ops o a with|some a'=>yx ops l a'|none=>none
def okF(t:Nat):Option Act→Bool
 |some a=>match a.tmps.getD t undef with | .bool false=>true|_=>false
 |none=>false
theorem put_defers(a:Act)(d:Option Tmp)(v:Value):(a.put d v).defers=a.defers:=by unfold Act.put;cases d<;>rfl
theorem afw{ops:Array Oper}{o:Oper}{a a':Act}(h:CV ops o a=some a'):a'.defers=a.defers:=by
 unfold CV at h
 split at h
 ·split at h
  iterate 2
   ·cases h;exact put_defers _ _ _
  ·split at h
   ·cases h;exact put_defers _ _ _
   ·cases h
  ·cases h
 ·cases h;exact put_defers _ _ _
theorem Tu{ops:Array Oper}:∀{l:List Oper} {a a':Act},yx ops l a=some a'→a'.defers=a.defers
 | [],a,a',h=>by cases h;rfl
 |o::l,a,a',h=>by
  unfold yx at h
  split at h
  ·rename_i b hb;rw[Tu h,afw hb]
  ·cases h
theorem afx{P:Program}{ops:Array Oper}{Q:Exit→Act→World→Prop}{o:Oper}{rest:List Oper}{a a':Act}{w:World}(h:CV ops o a=some a')(hr:wpList P ops Q rest a' w):wpList P ops Q (o::rest) a w:=by
 refine wpList_step fun K hK=>?_
 unfold CV at h
 split at h
 ·rename_i hw
  rw[if_pos hw]
  unfold Oper.wp
  split at h
  iterate 2
   ·rename_i x hop;cases h;simp only[execOp,hop,Sem.run_pure,Oper.upon];exact hK _ _ hr
  ·rename_i c x y hop
   split at h
   ·rename_i b hb;cases h
    simp only[execOp,hop,hb,asBool,Sem.run_bind,Sem.run_pure,Result.andThen,Oper.upon]
    exact hK _ _ (by cases b<;>exact hr)
   ·cases h
  ·cases h
 ·rename_i hw
  cases h
  rw[if_neg hw]
  exact hK _ _ hr
theorem Tv{P:Program}{ops:Array Oper}{Q:Exit→Act→World→Prop}{w:World}:∀{l:List Oper} {a a':Act},yx ops l a=some a'→Q .normal a' w→wpList P ops Q l a w
 | [],a,a',h,hq=>by cases h;exact hq
 |o::l,a,a',h,hq=>by
  unfold yx at h
  split at h
  ·rename_i b hb;exact afx hb (Tv h hq)
  ·cases h
theorem tH{P:Program}{ops:Array Oper}{Q:Exit→Act→World→Prop}{w:World}{l:List Oper}{a:Act}(t:Nat)(h:okF t (yx ops l a)=true)(hq:∀a',a'.tmps.getD t undef=.bool false→a'.defers=a.defers→Q .normal a' w):wpList P ops Q l a w:=by
 cases hr:yx ops l a with
 |none=>rw[hr]at h;cases h
 |some a'=>
  refine Tv hr (hq a' ?_ (Tu hr))
  rw[hr]at h
  unfold okF at h
  split at h
  ·rename_i b hb
   cases hb
   split at h
   ·assumption
   ·cases h
  ·cases h
end Go.WW
namespace Go.WW
theorem afy(x y:BitVec 32):(x&&& ~~~y=0#32)↔(x ||| y=y):=by
 constructor
 ·intro h
  apply BitVec.eq_of_getElem_eq
  intro i hi
  have:=congrArg (fun v=>v[i]) h
  simp at this ⊢
  intro h'
  cases hy:y[i]
  ·exact absurd (this h') (by simp[hy])
  ·rfl
 ·intro h
  apply BitVec.eq_of_getElem_eq
  intro i hi
  have:=congrArg (fun v=>v[i]) h
  simp at this ⊢
  exact this
theorem afz(a:Int)(h0:0≤a)(h1:a≤4294967295):(bits .andNot .u32 a 1023 == 0)=wP a:=by
 obtain⟨n,rfl⟩:=Int.eq_ofNat_of_zero_le h0
 have hn:n<4294967296:=by omega
 have e:bits .andNot .u32 (n:Int) 1023=((BitVec.ofInt 32 (n:Int)&&& ~~~ BitVec.ofInt 32 1023).toNat:Int):=by
  show IntKind.u32.wrap ((BitVec.ofInt 32 (n:Int)&&& ~~~ BitVec.ofInt 32 1023).toNat:Int)=_
  have:=(BitVec.ofInt 32 (n:Int)&&& ~~~ BitVec.ofInt 32 1023).isLt
  generalize (BitVec.ofInt 32 (n:Int)&&& ~~~ BitVec.ofInt 32 1023).toNat=v at this ⊢
  have e2:(2:Int) ^ IntKind.u32.bits=4294967296:=rfl
  have e3:IntKind.u32.signed=false:=rfl
  simp[IntKind.wrap,e2,e3]
  omega
 have e1:(BitVec.ofInt 32 (n:Int)).toNat=n:=by simp;omega
 have k1:((BitVec.ofInt 32 (n:Int)&&& ~~~ BitVec.ofInt 32 1023).toNat=0)↔n≤1023:=by
  rw[show(BitVec.ofInt 32 (n:Int)&&& ~~~ BitVec.ofInt 32 1023).toNat=0↔BitVec.ofInt 32 (n:Int)&&& ~~~ BitVec.ofInt 32 1023=0#32 from⟨fun h=>BitVec.eq_of_toNat_eq (by rw[h];rfl),fun h=>by rw[h];rfl⟩,afy]
  rw[show(BitVec.ofInt 32 (n:Int) ||| BitVec.ofInt 32 1023=BitVec.ofInt 32 1023)↔(n ||| 1023=1023) from ?_]
  ·exact RG n
  ·constructor
   ·intro h
    have:=congrArg BitVec.toNat h
    rw[BitVec.toNat_or,e1]at this
    exact this
   ·intro h
    apply BitVec.eq_of_toNat_eq
    rw[BitVec.toNat_or,e1]
    exact h
 rw[e,wP,Bool.eq_iff_iff]
 simp only[beq_iff_eq,decide_eq_true_eq]
 omega
open Go.RowKit
theorem Tz{w:World}{b:Nat}(x:Int)(h:w.cell? ⟨b,0,none⟩=some (.int .i64 x)):pX w (some ⟨b,0,none⟩) [x]:=by
 refine⟨by simp[lim],fun i hi=>?_⟩
 match i,hi with
 |0,_=>exact⟨_,_,_,rfl,h,x,rfl,rfl⟩
theorem afA{w:World}{b:Nat}(x y:Int)(h:w.cell? ⟨b,0,none⟩=some (.int .i64 x))(h1:w.cell? ⟨b,1,none⟩=some (.int .i64 y)):pX w (some ⟨b,0,none⟩) [x,y]:=by
 refine⟨by simp[lim],fun i hi=>?_⟩
 match i,hi with
 |0,_=>exact⟨_,_,_,rfl,h,x,rfl,rfl⟩
 |1,_=>exact⟨_,_,_,rfl,h1,y,rfl,rfl⟩
theorem afB{w:World}{b:Nat}(x y z u:Int)(h:w.cell? ⟨b,0,none⟩=some (.int .i64 x))(h1:w.cell? ⟨b,1,none⟩=some (.int .i64 y))(h2:w.cell? ⟨b,2,none⟩=some (.int .i64 z))(h3:w.cell? ⟨b,3,none⟩=some (.int .i64 u)):pX w (some ⟨b,0,none⟩) [x,y,z,u]:=by
 refine⟨by simp[lim],fun i hi=>?_⟩
 match i,hi with
 |0,_=>exact⟨_,_,_,rfl,h,x,rfl,rfl⟩
 |1,_=>exact⟨_,_,_,rfl,h1,y,rfl,rfl⟩
 |2,_=>exact⟨_,_,_,rfl,h2,z,rfl,rfl⟩
 |3,_=>exact⟨_,_,_,rfl,h3,u,rfl,rfl⟩
end Go.WW
namespace Go.Proofs.YtfieenjdcpjmgaaGreatDoor
open Go.RowKit Go.WW
def jC(d:Entry):Bool:=rq d&&wP d.attrs&&([d.dS].all fun v=>aF v 0 65535)&&wR d&&(visible d.aO&&decide ((d.aO.size:Int)≤32))&&([d.iE,d.iF,d.fD,d.gQ].all fun v=>aF v 0 1099511627776)&&
 ([d.ig,d.ik].all fun v=>aF v 0 2147483648)&&([d.fails].all fun v=>aF v 0 65535)&&different d.targets&&different d.bD&&(decide ((d.history.length:Int)≤16)&&d.history.all (fun h=>(h.length:Int) == 16))
theorem valid_eq(d:Entry):jC d=bW d:=by
 unfold jC bW
 rw[aeb]
 simp only[wR,kL,jG,List.all_cons,List.all_nil,Bool.and_true]
 rw[Bool.eq_iff_iff]
 simp only[Bool.and_eq_true]
 constructor
 iterate 2
  ·intro h;simp only[h,and_self]
theorem afC(a:Option Addr)(n cap:Nat)(w:World):Calls Tryz.prog 124 #[.slice a n cap] w fun e w'=>e=.returned (.bool ((n:Int) == 16))∧Below w.heap.size w w':=by
 go_enter Tryz.func124,Tryz.ntmps124
 go_wp2_with fail
 go_ret
 exact⟨by first|rfl|(congr 2;rw[Bool.eq_iff_iff];simp;omega),Below.refl _ _⟩
theorem afD:Enters 124:=⟨fun args w=>by kernel_rfl⟩
theorem CW(r:aN)(d:Entry)(w:World)(he:bK w r d):Calls Tryz.prog 63 #[.agg (ae r d)] w fun e w'=>e=.returned (.bool (bW d))∧Below w.heap.size w w':=by
 have hB:Below w.heap.size w (w.alloc (.cells (ae r d) 47)):=(Below.refl _ w).alloc (Nat.le_refl _) _
 have hps:d.aO.size≤maxLen:=by have:=he.aO;unfold lim at this;unfold maxLen;omega
 have HPS:=Lib.hid hps
 clear hps
 have hb0:Below (w.alloc (.cells (ae r d) 47)).heap.size (w.alloc (.cells (ae r d) 47)) (w.alloc (.cells (ae r d) 47)):=Below.refl _ _
 go_enter Tryz.func63,Tryz.ntmps63
 rw[←valid_eq]
 go_wp2_with fail
 have hbx:=hb0
 refine(afv _ _ _ (he.later (ag hB hbx))).mono ?_
 rintro e w1 ⟨rfl,hy⟩
 have hb1:=ag hbx hy
 clear hbx hy
 obtain⟨hcc,aT,hrr⟩:=bg hb1
 have hsz:w.heap.size<w1.heap.size:=by have:=hb1.size;simp at this;omega
 cases c1:rq d
 ·have HN:=Lib.hid (show jC d=false by rw[jC,c1];simp only[Bool.false_and])
  dsimp only
  first|go_values|go_step|go_upon
  refine tH 2 (by kernel_rfl) ?_
  intro a' h1 h2
  go_wp2_with fail
  refine bodyPost_ret (results_tmp (t:=2) (by rfl) _ _ _) h2 ?_
  exact⟨by rw[h1,HN.out],ag hB hb1⟩
 have hat:=afz d.attrs he.attrs.1 he.attrs.2
 cases c2:wP d.attrs
 ·have HN:=Lib.hid (show jC d=false by rw[jC,c2];simp only[Bool.and_false,Bool.false_and])
  rw[c2]at hat
  dsimp only
  iterate 17 (first|go_values|go_skip|go_guarded|go_step|go_upon)
  refine tH 2 (by kernel_rfl) ?_
  intro a' h1 h2
  go_wp2_with fail
  refine bodyPost_ret (results_tmp (t:=2) (by rfl) _ _ _) h2 ?_
  exact⟨by rw[h1,HN.out],ag hB hb1⟩
 rw[c2]at hat
 try dsimp only
 go_wp2_with fail
 have hbx:=aj hb1 (.cells #[.int .i64 d.dS] 3)
 refine(FT _ _ _ 65535 [d.dS] _ (Tz _ (by simp[go_sem]))).mono ?_
 rintro e w2 ⟨rfl,hy⟩
 have hb2:=ag hbx hy
 clear hcc aT hrr hsz hbx hy
 obtain⟨hcc,aT,hrr⟩:=bg hb2
 have hsz:w.heap.size<w2.heap.size:=by have:=hb2.size;simp at this;omega
 cases c3:([d.dS].all fun v=>aF v 0 65535)
 ·have HN:=Lib.hid (show jC d=false by rw[jC,c3];simp only[Bool.and_false,Bool.false_and])
  dsimp only
  first|go_values|go_step|go_upon
  refine tH 2 (by kernel_rfl) ?_
  intro a' h1 h2
  go_wp2_with fail
  refine bodyPost_ret (results_tmp (t:=2) (by rfl) _ _ _) h2 ?_
  exact⟨by rw[h1,HN.out],ag hB hb2⟩
 try dsimp only
 go_wp2_with fail
 have hbx:=hb2
 refine(afo _ _ _ (he.later (ag hB hbx))).mono ?_
 rintro e w3 ⟨rfl,hy⟩
 have hb3:=ag hbx hy
 clear hcc aT hrr hsz hbx hy
 obtain⟨hcc,aT,hrr⟩:=bg hb3
 have hsz:w.heap.size<w3.heap.size:=by have:=hb3.size;simp at this;omega
 cases c4:wR d
 ·have HN:=Lib.hid (show jC d=false by rw[jC,c4];simp only[Bool.and_false,Bool.false_and])
  dsimp only
  first|go_values|go_step|go_upon
  refine tH 2 (by kernel_rfl) ?_
  intro a' h1 h2
  go_wp2_with fail
  refine bodyPost_ret (results_tmp (t:=2) (by rfl) _ _ _) h2 ?_
  exact⟨by rw[h1,HN.out],ag hB hb3⟩
 try dsimp only
 go_wp2_with fail
 refine(acB _ _ HPS.out).mono ?_
 rintro e w' ⟨rfl,rfl⟩
 cases c5:(visible d.aO&&decide ((d.aO.size:Int)≤32))
 ·have HN:=Lib.hid (show jC d=false by rw[jC,c5];simp only[Bool.and_false,Bool.false_and])
  dsimp only
  first|go_values|go_step|go_upon
  refine tH 2 (by kernel_rfl) ?_
  intro a' h1 h2
  go_wp2_with fail
  refine bodyPost_ret (results_tmp (t:=2) (by rfl) _ _ _) h2 ?_
  exact⟨by rw[h1,HN.out],ag hB hb3⟩
 try dsimp only
 go_wp2_with fail
 have hbx:=aj hb3 (.cells #[.int .i64 d.iE,.int .i64 d.iF,.int .i64 d.fD,.int .i64 d.gQ] 3)
 refine(FT _ _ _ 1099511627776 [d.iE,d.iF,d.fD,d.gQ] _ (afB _ _ _ _ (by simp[go_sem]) (by simp[go_sem]) (by simp[go_sem]) (by simp[go_sem]))).mono ?_
 rintro e w4 ⟨rfl,hy⟩
 have hb4:=ag hbx hy
 clear hcc aT hrr hsz hbx hy
 obtain⟨hcc,aT,hrr⟩:=bg hb4
 have hsz:w.heap.size<w4.heap.size:=by have:=hb4.size;simp at this;omega
 cases c6:([d.iE,d.iF,d.fD,d.gQ].all fun v=>aF v 0 1099511627776)
 ·have HN:=Lib.hid (show jC d=false by rw[jC,c6];simp only[Bool.and_false,Bool.false_and])
  dsimp only
  first|go_values|go_step|go_upon
  refine tH 2 (by kernel_rfl) ?_
  intro a' h1 h2
  go_wp2_with fail
  refine bodyPost_ret (results_tmp (t:=2) (by rfl) _ _ _) h2 ?_
  exact⟨by rw[h1,HN.out],ag hB hb4⟩
 try dsimp only
 go_wp2_with fail
 have hbx:=aj hb4 (.cells #[.int .i64 d.ig,.int .i64 d.ik] 3)
 refine(FT _ _ _ 2147483648 [d.ig,d.ik] _ (afA _ _ (by simp[go_sem]) (by simp[go_sem]))).mono ?_
 rintro e w5 ⟨rfl,hy⟩
 have hb5:=ag hbx hy
 clear hcc aT hrr hsz hbx hy
 obtain⟨hcc,aT,hrr⟩:=bg hb5
 have hsz:w.heap.size<w5.heap.size:=by have:=hb5.size;simp at this;omega
 cases c7:([d.ig,d.ik].all fun v=>aF v 0 2147483648)
 ·have HN:=Lib.hid (show jC d=false by rw[jC,c7];simp only[Bool.and_false,Bool.false_and])
  dsimp only
  first|go_values|go_step|go_upon
  refine tH 2 (by kernel_rfl) ?_
  intro a' h1 h2
  go_wp2_with fail
  refine bodyPost_ret (results_tmp (t:=2) (by rfl) _ _ _) h2 ?_
  exact⟨by rw[h1,HN.out],ag hB hb5⟩
 try dsimp only
 go_wp2_with fail
 have hbx:=aj hb5 (.cells #[.int .i64 d.fails] 3)
 refine(FT _ _ _ 65535 [d.fails] _ (Tz _ (by simp[go_sem]))).mono ?_
 rintro e w6 ⟨rfl,hy⟩
 have hb6:=ag hbx hy
 clear hcc aT hrr hsz hbx hy
 obtain⟨hcc,aT,hrr⟩:=bg hb6
 have hsz:w.heap.size<w6.heap.size:=by have:=hb6.size;simp at this;omega
 cases c8:([d.fails].all fun v=>aF v 0 65535)
 ·have HN:=Lib.hid (show jC d=false by rw[jC,c8];simp only[Bool.and_false,Bool.false_and])
  dsimp only
  first|go_values|go_step|go_upon
  refine tH 2 (by kernel_rfl) ?_
  intro a' h1 h2
  go_wp2_with fail
  refine bodyPost_ret (results_tmp (t:=2) (by rfl) _ _ _) h2 ?_
  exact⟨by rw[h1,HN.out],ag hB hb6⟩
 try dsimp only
 go_wp2_with fail
 have hbx:=hb6
 refine(Tq _ _ d.targets _ (he.targets.later (ag hB hbx))).mono ?_
 rintro e w7 ⟨rfl,hy⟩
 have hb7:=ag hbx hy
 clear hcc aT hrr hsz hbx hy
 obtain⟨hcc,aT,hrr⟩:=bg hb7
 have hsz:w.heap.size<w7.heap.size:=by have:=hb7.size;simp at this;omega
 cases c9:different d.targets
 ·have HN:=Lib.hid (show jC d=false by rw[jC,c9];simp only[Bool.and_false,Bool.false_and])
  dsimp only
  first|go_values|go_step|go_upon
  refine tH 2 (by kernel_rfl) ?_
  intro a' h1 h2
  go_wp2_with fail
  refine bodyPost_ret (results_tmp (t:=2) (by rfl) _ _ _) h2 ?_
  exact⟨by rw[h1,HN.out],ag hB hb7⟩
 try dsimp only
 go_wp2_with fail
 have hbx:=hb7
 refine(Tq _ _ d.bD _ (he.bD.later (ag hB hbx))).mono ?_
 rintro e w8 ⟨rfl,hy⟩
 have hb8:=ag hbx hy
 clear hcc aT hrr hsz hbx hy
 obtain⟨hcc,aT,hrr⟩:=bg hb8
 have hsz:w.heap.size<w8.heap.size:=by have:=hb8.size;simp at this;omega
 cases c10:different d.bD
 ·have HN:=Lib.hid (show jC d=false by rw[jC,c10];simp only[Bool.and_false,Bool.false_and])
  dsimp only
  first|go_values|go_step|go_upon
  refine tH 2 (by kernel_rfl) ?_
  intro a' h1 h2
  go_wp2_with fail
  refine bodyPost_ret (results_tmp (t:=2) (by rfl) _ _ _) h2 ?_
  exact⟨by rw[h1,HN.out],ag hB hb8⟩
 have HN:=Lib.hid (show jC d=(decide ((d.history.length:Int)≤16)&&d.history.all (fun h=>(h.length:Int) == 16)) by rw[jC,c1,c2,c3,c4,c5,c6,c7,c8,c9,c10];rfl)
 try dsimp only
 go_wp2_with fail
 refine(aeo r.history.a r.history.cap 124 16 d.history (fun h=>(h.length:Int) == 16) _ afD (he.history.later (ag hB hb8)) (fun y t p _ _=>afC _ _ _ _)).mono ?_
 rintro e w99 ⟨rfl,hy⟩
 try dsimp only
 go_wp2_with fail
 go_ret
 exact⟨by rw[HN.out];rfl,ag (ag hB hb8) hy⟩
end Go.Proofs.YtfieenjdcpjmgaaGreatDoor
namespace Go.Proofs.YtfieenjdcpjmgaaGreatDoor
open Go.ChangeShapes Go.WideShapes Go.ChangeAt Go.RowKit Go.WW Go.Deep
section
variable {H:Type}
theorem afF(d:DataW H):1≤Rows.uptoBulk d:=by
 cases d with
 |lit l=>cases l<;>simp[Rows.uptoBulk]
 |_=>simp[Rows.uptoBulk]
theorem TA:∀(l:List (DataW H)),l.length≤Rows.uptoBulkAll l
 | []=>by simp[Rows.uptoBulkAll]
 |d::l=>by have:=afF d;have:=TA l;simp[Rows.uptoBulkAll];omega
theorem Ko{d:DataW H}:∀{l:List (DataW H)},d∈l→Rows.uptoBulk d≤Rows.uptoBulkAll l
 | [],h=>by simp at h
 |e::l,h=>by
  rcases List.mem_cons.1 h with rfl|h
  ·simp[Rows.uptoBulkAll]
  ·have:=Ko h;simp[Rows.uptoBulkAll];omega
end
theorem afG{w:World}{b o n:Nat}{cs:List Value}(hn:cs.length=n)(h0:0<n)(h:∀j,j<n→w.cell? ⟨b,o+j,none⟩=cs[j]?):row? w b o n=some cs.toArray:=by
 have hlast:=h (n-1) (by omega)
 rw[List.getElem?_eq_getElem (by omega)]at hlast
 unfold row?
 cases hb:w.heap[b]? with
 |none=>exfalso;simp[World.cell?,hb]at hlast
 |some ob=>
  cases ob with
  |cells c t f=>
   rw[cell_of_row w b (o+(n-1)) c t f hb]at hlast
   have hl:=(Array.getElem?_eq_some_iff.1 hlast).1
   show(if o+n≤c.size then _ else _)=_
   rw[if_pos (by omega)]
   congr 1
   apply Array.ext_getElem?
   intro j
   rw[Array.getElem?_extract]
   by_cases hj:j<n
   ·rw[if_pos (by omega),←cell_of_row w b (o+j) c t f hb,h j hj];simp
   ·rw[if_neg (by omega)];simp;omega
  |_=>exfalso;simp[World.cell?,hb]at hlast
section
variable {H:Type} {enc:TypeId×Value→H} {P:Program} {w:World} {base:Nat} {spare:Nat→Bool} {held:Bool}
theorem yz{t e:TypeId}{fuel k:Nat}{v:Value}{x:DataW H×List MemPlace}(ht:P.underlying t=some (.slice e))(hC:P.cellsOf e=k)(h0:0<k)(h:DataW.trod enc P w base spare held fuel t [v]=some x)(hb:Rows.uptoBulk x.1≤1048576) :
  ∃(s:Sl) (n:Nat),v=.slice s.a n s.cap∧n≤1048576∧∀i,i<n→∃b o cs fuel' y,s.a=some ⟨b,o,none⟩∧row? w b (o+i*k) k=some cs∧DataW.trod enc P w base spare held fuel' e cs.toList=some y∧Rows.uptoBulk y.1≤1048576:=by
 rcases open_slice ht h with⟨hcs,rfl⟩|⟨a,len,cap,m,n,D,Pl,hcs,hba,hle,hmax,hm,hx,hel⟩
 ·refine⟨⟨none,0⟩,0,by simpa using hcs,by omega,fun i hi=>by omega⟩
 ·rw[hx]at hb
  simp only[Rows.uptoBulk]at hb
  have hlen:=TA ((List.range len).map D)
  simp only[List.length_map,List.length_range]at hlen
  refine⟨⟨some a,cap⟩,len,by simpa using hcs,by omega,fun i hi=>?_⟩
  have hml:len≤m:=by rw[hm];split<;>omega
  obtain⟨c0,hc0,_⟩:=hel 0 (by omega)
  rw[hC]at hc0
  obtain⟨_,hl0,afH⟩:=World.cells?_some hc0
  have hspot:a.spot=none:=by
   have h1:=afH 0 h0
   rw[List.getElem?_eq_getElem (by omega)]at h1
   simp only[Nat.zero_mul,Addr.add,if_true]at h1
   unfold World.cell? at h1
   split at h1
   ·split at h1
    ·cases h1
    ·rename_i hs;simpa using hs
   ·cases h1
  obtain⟨b,o,sp⟩:=a
  dsimp only at hspot
  subst hspot
  obtain⟨cs',hc',ht'⟩:=hel i (by omega)
  rw[hC]at hc'
  obtain⟨_,hl',hat'⟩:=World.cells?_some hc'
  refine⟨b,o,cs'.toArray,n,(D i,Pl i),rfl,afG hl' h0 (fun j hj=>?_),by simpa using ht',?_⟩
  ·have h1:=hat' j hj
   rw[Addr.add_mid,Addr.add_mid]at h1
   exact h1
  ·have:=Ko (d:=D i) (l:=(List.range len).map D) (List.mem_map.2 ⟨i,by simpa using hi,rfl⟩)
   show Rows.uptoBulk (D i)≤_
   omega
end
end Go.Proofs.YtfieenjdcpjmgaaGreatDoor
namespace Go.Proofs.YtfieenjdcpjmgaaGreatDoor
open Go.ChangeShapes Go.WideShapes Go.ChangeAt Go.RowKit Go.WW Go.Deep
theorem wS{α:Type}{R:Nat→α→Prop}:∀{n:Nat},(∀i,i<n→∃a,R i a)→∃l:List α,l.length=n∧∀i a,l[i]?=some a→R i a
 |0,_=>⟨[],rfl,fun i a h=>by simp at h⟩
 |n+1,h=>by
  obtain⟨l,hl,hr⟩:=wS (n:=n) (fun i hi=>h i (by omega))
  obtain⟨a,ha⟩:=h n (by omega)
  refine⟨l++[a],by simp[hl],fun i b hb=>?_⟩
  by_cases hi:i<n
  ·rw[List.getElem?_append_left (by omega)]at hb;exact hr i b hb
  ·have hil:=(List.getElem?_eq_some_iff.1 hb).1
   simp[hl]at hil
   obtain rfl:i=n:=by omega
   rw[List.getElem?_append_right (by omega)]at hb
   simp[hl]at hb
   subst hb;exact ha
theorem Kq:∀{cs:List Value},cs.length=1→∃c0,cs=[c0]
 | [c0],_=>⟨c0,rfl⟩
theorem afI:∀{cs:List Value},cs.length=2→∃c0 c1,cs=[c0,c1]
 | [c0,c1],_=>⟨c0,c1,rfl⟩
theorem TB:∀{cs:List Value},cs.length=3→∃c0 c1 c2,cs=[c0,c1,c2]
 | [c0,c1,c2],_=>⟨c0,c1,c2,rfl⟩
theorem afJ:∀{cs:List Value},cs.length=5→∃c0 c1 c2 c3 c4,cs=[c0,c1,c2,c3,c4]
 | [c0,c1,c2,c3,c4],_=>⟨c0,c1,c2,c3,c4,rfl⟩
theorem afK:∀{cs:List Value},cs.length=10→∃c0 c1 c2 c3 c4 c5 c6 c7 c8 c9,cs=[c0,c1,c2,c3,c4,c5,c6,c7,c8,c9]
 | [c0,c1,c2,c3,c4,c5,c6,c7,c8,c9],_=>⟨c0,c1,c2,c3,c4,c5,c6,c7,c8,c9,rfl⟩
theorem afL:∀{cs:List Value},cs.length=17→∃c0 c1 c2 c3 c4 c5 c6 c7 c8 c9 c10 c11 c12 c13 c14 c15 c16,cs=[c0,c1,c2,c3,c4,c5,c6,c7,c8,c9,c10,c11,c12,c13,c14,c15,c16]
 | [c0,c1,c2,c3,c4,c5,c6,c7,c8,c9,c10,c11,c12,c13,c14,c15,c16],_=>⟨c0,c1,c2,c3,c4,c5,c6,c7,c8,c9,c10,c11,c12,c13,c14,c15,c16,rfl⟩
theorem wU{n:Nat}(h:n≤1048576):n≤lim:=by unfold lim;omega
section
variable {H:Type} {enc:TypeId×Value→H} {w:World} {base:Nat} {spare:Nat→Bool} {held:Bool} {fuel:Nat} {x:DataW H×List MemPlace}
theorem Aw{P:Program}{T:TypeId}{fs:Array Field}{cs:List Value}(ht:P.underlying T=some (.struct fs))(h:DataW.trod enc P w base spare held fuel T cs=some x)(hb:Rows.uptoBulk x.1≤1048576) :
  cs.length=P.cellsOf T∧∃n,∀(i:Nat) (f:Field),fs[i]?=some f→∃y,DataW.trod enc P w base spare held n f.type ((cs.drop f.offset).take (P.cellsOf f.type))=some y∧Rows.uptoBulk y.1≤1048576:=by
 obtain⟨xs,n,_,hx,hlen,hxl,hf⟩:=DataW.trod_struct ht h
 refine⟨hlen,n,fun i f hi=>?_⟩
 have hil:i<xs.length:=by rw[hxl];exact(Array.getElem?_eq_some_iff.1 hi).1
 refine⟨xs[i],by rw[hf i f hi,List.getElem?_eq_getElem hil],?_⟩
 rw[hx]at hb
 simp only[Rows.uptoBulk]at hb
 have:=Ko (d:=xs[i].1) (l:=xs.map (·.1)) (List.mem_map.2 ⟨xs[i],List.getElem_mem hil,rfl⟩)
 omega
theorem take_one{cs:List Value}{o:Nat}{c:Value}(h:cs[o]?=some c):(cs.drop o).take 1=[c]:=by
 obtain⟨ho,rfl⟩:=List.getElem?_eq_some_iff.1 h
 rw[List.drop_eq_getElem_cons ho];rfl
theorem CX:Tryz.prog.cellsOf 9=1:=by kernel_rfl
theorem TC:Tryz.prog.cellsOf 5=1:=by kernel_rfl
theorem jI:Tryz.prog.cellsOf 3=1:=by kernel_rfl
theorem afM:Tryz.prog.cellsOf 43=1:=by kernel_rfl
theorem Gm:Tryz.prog.cellsOf 40=2:=by kernel_rfl
theorem TD:Tryz.prog.cellsOf 69=3:=by kernel_rfl
theorem TE:Tryz.prog.cellsOf 67=5:=by kernel_rfl
theorem TF:Tryz.prog.cellsOf 47=17:=by kernel_rfl
theorem TG:Tryz.prog.cellsOf 50=10:=by kernel_rfl
theorem afN:Tryz.prog.cellsOf 38=1:=by kernel_rfl
theorem TJ:Tryz.prog.cellsOf 61=1:=by kernel_rfl
theorem Kr:Tryz.prog.cellsOf 41=1:=by kernel_rfl
theorem afO:Tryz.prog.cellsOf 44=1:=by kernel_rfl
theorem afP:Tryz.prog.cellsOf 65=1:=by kernel_rfl
theorem afQ:Tryz.prog.cellsOf 45=1:=by kernel_rfl
theorem Az{v:Value}(h:DataW.trod enc Tryz.prog w base spare held fuel 9 [v]=some x)(hb:Rows.uptoBulk x.1≤1048576):∃s:ByteArray,v=.string s∧s.size≤lim:=by
 obtain⟨s,hs,hx,_⟩:=DataW.trod_string Tryz.underlying9 h
 refine⟨s,by simpa using hs,?_⟩
 rw[hx]at hb
 simp[Rows.uptoBulk]at hb
 exact wU (by omega)
theorem jJ{v:Value}(h:DataW.trod enc Tryz.prog w base spare held fuel 3 [v]=some x):∃n:Int,v=.int .i64 n:=by
 obtain⟨n,hs,_,_⟩:=DataW.trod_int Tryz.underlying3 h
 exact⟨n,by simpa using hs⟩
theorem afR{v:Value}(h:DataW.trod enc Tryz.prog w base spare held fuel 38 [v]=some x)(hb:Rows.uptoBulk x.1≤1048576):∃(s:Sl) (l:List ByteArray),v=.slice s.a l.length s.cap∧kH w s.a l:=by
 obtain⟨s,n,hv,hn,hel⟩:=yz Tryz.underlying38 CX (by omega) h hb
 obtain⟨l,hl,hr⟩:=wS (R:=fun i (a:ByteArray)=>∃b o,s.a=some ⟨b,o,none⟩∧w.cell? ⟨b,o+i,none⟩=some (.string a)∧a.size≤lim) (n:=n) (fun i hi=>by
  obtain⟨b,o,cs,f',y,ha,hrow,ht,hby⟩:=hel i hi
  have hc:=gX hrow 0 (by omega)
  have hsz:=x9 hrow
  obtain⟨c,hcs⟩:∃c,cs.toList=[c]:=by
   obtain⟨l⟩:=cs
   match l,hsz with
   | [c],_=>exact⟨c,rfl⟩
  rw[hcs]at ht
  obtain⟨a,rfl,hs⟩:=Az ht hby
  refine⟨a,b,o,ha,?_,hs⟩
  have e:cs[0]?=some (.string a):=by rw[←Array.getElem?_toList,hcs];rfl
  rw[e]at hc
  simpa using hc)
 refine⟨s,l,by rw[hl];exact hv,by rw[hl];exact wU hn,fun i hi=>?_⟩
 obtain⟨b,o,h1,h2,h3⟩:=hr i l[i] (List.getElem?_eq_getElem hi)
 exact⟨b,o,_,h1,h2,l[i],List.getElem?_eq_getElem hi,rfl,h3⟩
theorem Kt{cs:List Value}(h:DataW.trod enc Tryz.prog w base spare held fuel 40 cs=some x)(hb:Rows.uptoBulk x.1≤1048576):∃(s:Sl) (p:az),cs=(ah s p).toList∧bn w s p:=by
 obtain⟨hl,n,hf⟩:=Aw Tryz.underlying40 h hb
 rw[Gm]at hl
 obtain⟨c0,c1,rfl⟩:=afI hl
 obtain⟨y0,t0,b0⟩:=hf 0 _ rfl
 replace t0:DataW.trod enc Tryz.prog w base spare held n 38 (([c0,c1].drop 0).take (Tryz.prog.cellsOf 38))=some y0:=t0
 rw[afN,take_one (c:=c0) rfl]at t0
 obtain⟨y1,t1,b1⟩:=hf 1 _ rfl
 replace t1:DataW.trod enc Tryz.prog w base spare held n 9 (([c0,c1].drop 1).take (Tryz.prog.cellsOf 9))=some y1:=t1
 rw[CX,take_one (c:=c1) rfl]at t1
 obtain⟨s0,n0,rfl,hs0⟩:=afR t0 b0
 obtain⟨n1,rfl,hs1⟩:=Az t1 b1
 exact⟨s0,⟨n0,n1⟩,rfl,hs0,hs1⟩
theorem Ku{v:Value}(h:DataW.trod enc Tryz.prog w base spare held fuel 41 [v]=some x)(hb:Rows.uptoBulk x.1≤1048576):∃(s:Sl) (l:List az),v=.slice s.a l.length s.cap∧fJ w s.a l:=by
 obtain⟨s,n,hv,hn,hel⟩:=yz Tryz.underlying41 Gm (by omega) h hb
 obtain⟨l,hl,hr⟩:=wS (R:=fun i (a:az)=>∃b o t,s.a=some ⟨b,o,none⟩∧row? w b (o+i*2) 2=some (ah t a)∧bn w t a) (n:=n) (fun i hi=>by
  obtain⟨b,o,cs,f',y,ha,hrow,ht,hby⟩:=hel i hi
  obtain⟨t,p,hcs,hp⟩:=Kt ht hby
  exact⟨p,b,o,t,ha,by rw[hrow,←Array.toList_inj.1 hcs],hp⟩)
 refine⟨s,l,by rw[hl];exact hv,by rw[hl];exact wU hn,fun i hi=>?_⟩
 obtain⟨b,o,t,h1,h2,h3⟩:=hr i l[i] (List.getElem?_eq_getElem hi)
 exact⟨b,o,_,h1,h2,l[i],t,List.getElem?_eq_getElem hi,rfl,h3⟩
theorem TK{v:Value}(h:DataW.trod enc Tryz.prog w base spare held fuel 5 [v]=some x):∃c:UInt8,v=.int .u8 c.toNat:=by
 obtain⟨n,hs,_,hw⟩:=DataW.trod_int Tryz.underlying5 h
 have hw':0≤n∧n≤255:=by
  simp only[Lit.wf,Bool.and_eq_true,decide_eq_true_eq]at hw
  exact⟨hw.1,hw.2⟩
 refine⟨UInt8.ofNat n.toNat,?_⟩
 have e:((UInt8.ofNat n.toNat).toNat:Int)=n:=by
  have:n.toNat<256:=by omega
  rw[UInt8.toNat_ofNat_of_lt' (by simpa using this)];omega
 rw[e];simpa using hs
theorem TL{v:Value}(h:DataW.trod enc Tryz.prog w base spare held fuel 61 [v]=some x)(hb:Rows.uptoBulk x.1≤1048576):∃(s:Sl) (l:List UInt8),v=.slice s.a l.length s.cap∧BytesAt w s.a l:=by
 obtain⟨s,n,hv,hn,hel⟩:=yz Tryz.underlying61 TC (by omega) h hb
 obtain⟨l,hl,hr⟩:=wS (R:=fun i (a:UInt8)=>∃b o v,s.a=some ⟨b,o,none⟩∧w.cell? ⟨b,o+i,none⟩=some v∧v=.int .u8 a.toNat) (n:=n) (fun i hi=>by
  obtain⟨b,o,cs,f',y,ha,hrow,ht,hby⟩:=hel i hi
  have hc:=gX hrow 0 (by omega)
  obtain⟨c,hcs⟩:=Kq (cs:=cs.toList) (by simpa using x9 hrow)
  have e:cs[0]?=some c:=by rw[←Array.getElem?_toList,hcs];rfl
  rw[hcs]at ht
  rw[e]at hc
  obtain⟨a,rfl⟩:=TK ht
  exact⟨a,b,o,_,ha,by simpa using hc,rfl⟩)
 refine⟨s,l,by rw[hl];exact hv,by rw[hl];exact wU hn,fun i hi=>?_⟩
 obtain⟨b,o,v,h1,h2,h3⟩:=hr i l[i] (List.getElem?_eq_getElem hi)
 exact⟨b,o,v,h1,h2,l[i],List.getElem?_eq_getElem hi,h3⟩
theorem afS{cs:List Value}(h:DataW.trod enc Tryz.prog w base spare held fuel 69 cs=some x)(hb:Rows.uptoBulk x.1≤1048576):∃(s:Sl) (p:Key),cs=(bZ s p).toList∧kJ w s p:=by
 obtain⟨hl,n,hf⟩:=Aw Tryz.underlying69 h hb
 rw[TD]at hl
 obtain⟨c0,c1,c2,rfl⟩:=TB hl
 obtain⟨y0,t0,b0⟩:=hf 0 _ rfl
 replace t0:DataW.trod enc Tryz.prog w base spare held n 3 (([c0,c1,c2].drop 0).take (Tryz.prog.cellsOf 3))=some y0:=t0
 rw[jI,take_one (c:=c0) rfl]at t0
 obtain⟨y1,t1,b1⟩:=hf 1 _ rfl
 replace t1:DataW.trod enc Tryz.prog w base spare held n 3 (([c0,c1,c2].drop 1).take (Tryz.prog.cellsOf 3))=some y1:=t1
 rw[jI,take_one (c:=c1) rfl]at t1
 obtain⟨y2,t2,b2⟩:=hf 2 _ rfl
 replace t2:DataW.trod enc Tryz.prog w base spare held n 61 (([c0,c1,c2].drop 2).take (Tryz.prog.cellsOf 61))=some y2:=t2
 rw[TJ,take_one (c:=c2) rfl]at t2
 obtain⟨n0,rfl⟩:=jJ t0
 clear b0
 obtain⟨n1,rfl⟩:=jJ t1
 clear b1
 obtain⟨s2,n2,rfl,hs2⟩:=TL t2 b2
 exact⟨s2,⟨n0,n1,n2⟩,rfl,hs2⟩
theorem afT{v:Value}(h:DataW.trod enc Tryz.prog w base spare held fuel 65 [v]=some x)(hb:Rows.uptoBulk x.1≤1048576):∃(s:Sl) (l:List Key),v=.slice s.a l.length s.cap∧kV w s.a l:=by
 obtain⟨s,n,hv,hn,hel⟩:=yz Tryz.underlying65 TD (by omega) h hb
 obtain⟨l,hl,hr⟩:=wS (R:=fun i (a:Key)=>∃b o t,s.a=some ⟨b,o,none⟩∧row? w b (o+i*3) 3=some (bZ t a)∧kJ w t a) (n:=n) (fun i hi=>by
  obtain⟨b,o,cs,f',y,ha,hrow,ht,hby⟩:=hel i hi
  obtain⟨t,p,hcs,hp⟩:=afS ht hby
  exact⟨p,b,o,t,ha,by rw[hrow,←Array.toList_inj.1 hcs],hp⟩)
 refine⟨s,l,by rw[hl];exact hv,by rw[hl];exact wU hn,fun i hi=>?_⟩
 obtain⟨b,o,t,h1,h2,h3⟩:=hr i l[i] (List.getElem?_eq_getElem hi)
 exact⟨b,o,_,h1,h2,l[i],t,List.getElem?_eq_getElem hi,rfl,h3⟩
theorem afU{cs:List Value}(h:DataW.trod enc Tryz.prog w base spare held fuel 67 cs=some x)(hb:Rows.uptoBulk x.1≤1048576):∃(s:Sl) (p:bC),cs=(bz s p).toList∧jA w s p:=by
 obtain⟨hl,n,hf⟩:=Aw Tryz.underlying67 h hb
 rw[TE]at hl
 obtain⟨c0,c1,c2,c3,c4,rfl⟩:=afJ hl
 obtain⟨y0,t0,b0⟩:=hf 0 _ rfl
 replace t0:DataW.trod enc Tryz.prog w base spare held n 3 (([c0,c1,c2,c3,c4].drop 0).take (Tryz.prog.cellsOf 3))=some y0:=t0
 rw[jI,take_one (c:=c0) rfl]at t0
 obtain⟨y1,t1,b1⟩:=hf 1 _ rfl
 replace t1:DataW.trod enc Tryz.prog w base spare held n 65 (([c0,c1,c2,c3,c4].drop 1).take (Tryz.prog.cellsOf 65))=some y1:=t1
 rw[afP,take_one (c:=c1) rfl]at t1
 obtain⟨y2,t2,b2⟩:=hf 2 _ rfl
 replace t2:DataW.trod enc Tryz.prog w base spare held n 9 (([c0,c1,c2,c3,c4].drop 2).take (Tryz.prog.cellsOf 9))=some y2:=t2
 rw[CX,take_one (c:=c2) rfl]at t2
 obtain⟨y3,t3,b3⟩:=hf 3 _ rfl
 replace t3:DataW.trod enc Tryz.prog w base spare held n 3 (([c0,c1,c2,c3,c4].drop 3).take (Tryz.prog.cellsOf 3))=some y3:=t3
 rw[jI,take_one (c:=c3) rfl]at t3
 obtain⟨y4,t4,b4⟩:=hf 4 _ rfl
 replace t4:DataW.trod enc Tryz.prog w base spare held n 3 (([c0,c1,c2,c3,c4].drop 4).take (Tryz.prog.cellsOf 3))=some y4:=t4
 rw[jI,take_one (c:=c4) rfl]at t4
 obtain⟨n0,rfl⟩:=jJ t0
 clear b0
 obtain⟨s1,n1,rfl,hs1⟩:=afT t1 b1
 obtain⟨n2,rfl,hs2⟩:=Az t2 b2
 obtain⟨n3,rfl⟩:=jJ t3
 clear b3
 obtain⟨n4,rfl⟩:=jJ t4
 clear b4
 exact⟨s1,⟨n0,n1,n2,n3,n4⟩,rfl,hs1,hs2⟩
theorem afV{v:Value}(h:DataW.trod enc Tryz.prog w base spare held fuel 44 [v]=some x)(hb:Rows.uptoBulk x.1≤1048576):∃(s:Sl) (l:List bC),v=.slice s.a l.length s.cap∧mO w s.a l:=by
 obtain⟨s,n,hv,hn,hel⟩:=yz Tryz.underlying44 TE (by omega) h hb
 obtain⟨l,hl,hr⟩:=wS (R:=fun i (a:bC)=>∃b o t,s.a=some ⟨b,o,none⟩∧row? w b (o+i*5) 5=some (bz t a)∧jA w t a) (n:=n) (fun i hi=>by
  obtain⟨b,o,cs,f',y,ha,hrow,ht,hby⟩:=hel i hi
  obtain⟨t,p,hcs,hp⟩:=afU ht hby
  exact⟨p,b,o,t,ha,by rw[hrow,←Array.toList_inj.1 hcs],hp⟩)
 refine⟨s,l,by rw[hl];exact hv,by rw[hl];exact wU hn,fun i hi=>?_⟩
 obtain⟨b,o,t,h1,h2,h3⟩:=hr i l[i] (List.getElem?_eq_getElem hi)
 exact⟨b,o,_,h1,h2,l[i],t,List.getElem?_eq_getElem hi,rfl,h3⟩
theorem afW{v:Value}(h:DataW.trod enc Tryz.prog w base spare held fuel 45 [v]=some x)(hb:Rows.uptoBulk x.1≤1048576):∃(s:Sl) (l:List (List UInt8)),v=.slice s.a l.length s.cap∧fK w s.a l:=by
 obtain⟨s,n,hv,hn,hel⟩:=yz Tryz.underlying45 TJ (by omega) h hb
 obtain⟨l,hl,hr⟩:=wS (R:=fun i (a:(List UInt8))=>∃b o v,s.a=some ⟨b,o,none⟩∧w.cell? ⟨b,o+i,none⟩=some v∧∃s':Sl,v=.slice s'.a a.length s'.cap∧BytesAt w s'.a a) (n:=n) (fun i hi=>by
  obtain⟨b,o,cs,f',y,ha,hrow,ht,hby⟩:=hel i hi
  have hc:=gX hrow 0 (by omega)
  obtain⟨c,hcs⟩:=Kq (cs:=cs.toList) (by simpa using x9 hrow)
  have e:cs[0]?=some c:=by rw[←Array.getElem?_toList,hcs];rfl
  rw[hcs]at ht
  rw[e]at hc
  obtain⟨s',a,rfl,hs'⟩:=TL ht hby
  exact⟨a,b,o,_,ha,by simpa using hc,s',rfl,hs'⟩)
 refine⟨s,l,by rw[hl];exact hv,by rw[hl];exact wU hn,fun i hi=>?_⟩
 obtain⟨b,o,v,h1,h2,h3⟩:=hr i l[i] (List.getElem?_eq_getElem hi)
 obtain⟨s',h4,h5⟩:=h3
 exact⟨b,o,v,h1,h2,l[i],s',List.getElem?_eq_getElem hi,h4,h5⟩
end
end Go.Proofs.YtfieenjdcpjmgaaGreatDoor
