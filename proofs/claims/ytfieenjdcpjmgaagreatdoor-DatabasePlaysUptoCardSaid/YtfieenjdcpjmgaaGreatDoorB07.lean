/- A part of the proof. -/
import Derived.Test.YtfieenjdcpjmgaaGreatDoorB06
import Derived.Deep.RegionWith
import Derived.BigRegion
import Derived.OwnWalk
import Derived.Laws.BytesString
set_option maxRecDepth 100000
set_option maxHeartbeats 4000000
namespace Go.WW
open Go.RowKit
def Ar(commaOk:Bool)(z:Value):Option (Nat×Value)→Value
 |some (_,v)=>if commaOk then .tuple #[v,.bool true]else v
 |none=>if commaOk then .tuple #[z,.bool false]else z
theorem J6{P:Program}{w:World}{mty kt et:TypeId}{d:TypeDesc}{r clock:Nat}{es:Array MapEntry}{k z:Value}{found:Option (Nat×Value)}(commaOk:Bool)(hm:P.underlying mty=some (.map kt et))(hd:P.underlying kt=some d)(hk:MapKept.IsKey d k)
  (hf:Instr.findNow d k es.toList 0=some found) (hz:(zeroValue et).run P w=.ok z w) (hb:w.heap[r]?=some (.map es clock)) :
  (Instr.lookup mty (.map (some r)) k commaOk).run P w=.ok (Ar commaOk z found) w:=by
 have hc:(Instr.checkKey es.isEmpty 10000 kt k).run P w=.ok () w:=MapKept.run_checkKey hd hk _ 9999
 cases found with
 |none=>simp[Instr.lookup,run_underlying hm,MapKept.run_getObj_map hb,hc,MapKept.run_findKey hd hf,Result.andThen,hz,Ar]
 |some x=>obtain⟨i,v⟩:=x;simp[Instr.lookup,run_underlying hm,MapKept.run_getObj_map hb,hc,MapKept.run_findKey hd hf,Result.andThen,Ar]
end Go.WW
namespace Go.Proofs.YtfieenjdcpjmgaaGreatDoor
open Go.RowKit Go.WW
def uS:Array Value:=#[.string ⟨#[97,101,115,49,50,56,45,99,116,115,45,104,109,97,99,45,115,104,97,50,53,54,45,49,50,56]⟩,.int .i64 16,.int .i64 16,.int .i64 16,.int .i64 16,.func (.func 374) #[] #[],.func (.func 375) #[] #[],.func (.func 376) #[] #[]]
def Au:Array Value:=#[.string ⟨#[115,116,114,101,97,109,45,104,109,97,99,45,115,104,97,50,53,54,45,50,53,54]⟩,.int .i64 32,.int .i64 16,.int .i64 32,.int .i64 32,.func (.func 377) #[] #[],.func (.func 378) #[] #[],.func (.func 379) #[] #[]]
def yu:Array MapEntry:=#[{key:=.int .i64 1,val:=.agg uS,born:=0},{key:=.int .i64 2,val:=.agg Au,born:=1}]
theorem aev(w:World):(iq 354 #[(0,.string ⟨#[97,101,115,49,50,56,45,99,116,115,45,104,109,97,99,45,115,104,97,50,53,54,45,49,50,56]⟩),(1,.agg #[.int .i64 16,.int .i64 16,.int .i64 16,.int .i64 16]),(2,.func (.func 374) #[] #[]),(3,.func (.func 375) #[] #[]),(4,.func (.func 376) #[] #[])]).run Tryz.prog w=.ok (.value (.agg uS)) w:=by kernel_rfl
theorem aew(w:World):(iq 354 #[(0,.string ⟨#[115,116,114,101,97,109,45,104,109,97,99,45,115,104,97,50,53,54,45,50,53,54]⟩),(1,.agg #[.int .i64 32,.int .i64 16,.int .i64 32,.int .i64 32]),(2,.func (.func 377) #[] #[]),(3,.func (.func 378) #[] #[]),(4,.func (.func 379) #[] #[])]).run Tryz.prog w=.ok (.value (.agg Au)) w:=by kernel_rfl
theorem aex(ρ:Operand→Value)(dst:Option Tmp)(a b c d e:Nat×Operand)(ty:TypeId)(pos:String)(after:Array Edge)(guard:Option (Nat×Bool)):execOp ρ {dst,op:=.build 354 #[a,b,c,d,e],type:=ty,pos,after,guard}=iq 354 #[(a.1,ρ a.2),(b.1,ρ b.2),(c.1,ρ c.2),(d.1,ρ d.2),(e.1,ρ e.2)]:=by simp[execOp,iq]
attribute [go_sem] aev aew
attribute [go_sem ↓] aex
theorem SG(w:World):Calls Tryz.prog 346 #[] w fun e w'=>e=.returned (.map (some w.heap.size))∧w'.heap[w.heap.size]?=some (.map yu 2)∧Below w.heap.size w w':=by
 have hm1:(w.alloc (.map #[] 0)).heap[w.heap.size]?=some (.map #[] 0):=World.alloc_heap_new w (.map #[] 0)
 have hi1:=JV (P:=Tryz.prog) (.agg uS) Tryz.underlying355 Tryz.underlying3 (k:=.int .i64 1) rfl (by rfl) hm1
 have hm2:((w.alloc (.map #[] 0)).putObj w.heap.size (.map #[{key:=.int .i64 1,val:=.agg uS,born:=0}] 1)).heap[w.heap.size]?=some (.map #[{key:=.int .i64 1,val:=.agg uS,born:=0}] 1):=World.putObj_heap_same (by simp)
 have hi2:=JV (P:=Tryz.prog) (.agg Au) Tryz.underlying355 Tryz.underlying3 (k:=.int .i64 2) rfl (by rfl) hm2
 obtain⟨W3,hW3⟩:∃W,((w.alloc (.map #[] 0)).putObj w.heap.size (.map #[{key:=.int .i64 1,val:=.agg uS,born:=0}] 1)).putObj w.heap.size (.map #[{key:=.int .i64 1,val:=.agg uS,born:=0},{key:=.int .i64 2,val:=.agg Au,born:=1}] 2)=W:=⟨_,rfl⟩
 have Gf:W3.heap[w.heap.size]?=some (.map yu 2):=by rw[←hW3];exact World.putObj_heap_same (by simp)
 simp only[List.push_toArray,List.nil_append,List.cons_append,Nat.zero_add,Nat.reduceAdd]at hi1 hi2
 rw[hW3]at hi2
 have hB3:Below w.heap.size w W3:=by
  rw[←hW3]
  exact((Below.refl _ _).alloc (Nat.le_refl _) _).grown (grownBy_putObj' _ _ _) (by simp) (fun k e=>by cases e;omega) |>.grown (grownBy_putObj' _ _ _) (by simp) (fun k e=>by cases e;omega)
 have hmm:=@run_makeMap Tryz.prog
 have HM:=Lib.hid Gf
 clear Gf hm1 hm2 hW3
 go_enter Tryz.func346,Tryz.ntmps346
 go_wp2_with fail
 go_ret
 exact⟨rfl,HM.out,hB3⟩
def J7:Array Value:=#[.string ⟨#[]⟩,.int .i64 0,.int .i64 0,.int .i64 0,.int .i64 0,.nilFunc,.nilFunc,.nilFunc]
def oU(n:Int):Bool:=n == 1 || n == 2
def lX(n:Int):Array Value:=if n == 1 then uS else if n == 2 then Au else J7
theorem aey(w:World):(zeroValue 354).run Tryz.prog w=.ok (.agg J7) w:=by kernel_rfl
def Gg(n:Int):Option (Nat×Value):=if n == 1 then some (0,.agg uS)else if n == 2 then some (1,.agg Au)else none
theorem aez(n:Int):Instr.findNow (.int .i64) (.int .i64 n) yu.toList 0=some (Gg n):=by
 unfold Gg
 by_cases h1:n=1
 ·subst h1;rfl
 ·by_cases h2:n=2
  ·subst h2;rfl
  ·have e1:(n == 1)=false:=by simpa using h1
   have e2:(n == 2)=false:=by simpa using h2
   simp[Instr.findNow,Instr.sameNow,yu,e1,e2]
theorem aeA(b:Bool)(n:Int):Ar b (.agg J7) (Gg n)=if b then .tuple #[.agg (lX n),.bool (oU n)]else .agg (lX n):=by
 unfold Gg lX oU
 by_cases h1:n=1
 ·subst h1;rfl
 ·by_cases h2:n=2
  ·subst h2;rfl
  ·have e1:(n == 1)=false:=by simpa using h1
   have e2:(n == 2)=false:=by simpa using h2
   simp[e1,e2,Ar]
theorem SH(b:Bool)(n:Int){w:World}{r:Nat}(hb:w.heap[r]?=some (.map yu 2)):(Instr.lookup 355 (.map (some r)) (.int .i64 n) b).run Tryz.prog w=.ok (if b then .tuple #[.agg (lX n),.bool (oU n)]else .agg (lX n)) w:=by
 rw[←aeA]
 exact J6 b Tryz.underlying355 Tryz.underlying3 rfl (aez n) (aey w) hb
def conf(n:Int):Int:=if n == 1 then 16 else if n == 2 then 16 else 0
theorem Gh(n:Int):∃a b c d:Value,lX n=#[a,.int .i64 (dV n),.int .i64 (conf n),.int .i64 (dV n),.int .i64 (dV n),b,c,d]∧dJ #[a,b,c,d]=true:=by
 unfold lX dV conf
 by_cases h1:n=1
 ·subst h1;exact⟨_,_,_,_,rfl,by simp[dJ,Value.oneCell']⟩
 ·by_cases h2:n=2
  ·subst h2;exact⟨_,_,_,_,rfl,by simp[dJ,Value.oneCell']⟩
  ·have e1:(n == 1)=false:=by simpa using h1
   have e2:(n == 2)=false:=by simpa using h2
   rw[e1,e2];exact⟨_,_,_,_,rfl,by simp[dJ,Value.oneCell']⟩
theorem aeB(w:World)(n:Int):(Instr.field 354 (.agg (lX n)) 1).run Tryz.prog w=.ok (.agg #[.int .i64 (dV n),.int .i64 (conf n),.int .i64 (dV n),.int .i64 (dV n)]) w:=by
 obtain⟨a,b,c,d,h,_⟩:=Gh n
 rw[h];kernel_rfl
theorem aeC(w:World)(a b c d:Int):(Instr.field 350 (.agg #[.int .i64 a,.int .i64 b,.int .i64 c,.int .i64 d]) 0).run Tryz.prog w=.ok (.int .i64 a) w:=by kernel_rfl
theorem aeD(n:Int)(w:World):Calls Tryz.prog 279 #[.int .i64 n] w fun e w'=>e=.returned (.int .i64 (dV n))∧Below w.heap.size w w':=by
 have hkf:=fun w=>aeB w n
 have hlf:=fun w=>aeC w (dV n) (conf n) (dV n) (dV n)
 go_enter Tryz.func279,Tryz.ntmps279
 go_wp2_with fail
 refine(SG _).mono ?_
 rintro e w1 ⟨rfl,hm,hb⟩
 have hlk:(Instr.lookup 355 (.map (some w.heap.size)) (.int .i64 n) false).run Tryz.prog w1=.ok (.agg (lX n)) w1:=SH false n hm
 have HN:=Lib.hid hb
 clear hm hb
 go_wp2_with fail
 go_ret
 exact⟨rfl,HN.out⟩
end Go.Proofs.YtfieenjdcpjmgaaGreatDoor
namespace Go.WW
open Go.RowKit
theorem dI{w:World}{b o:Nat}{c:Array Value}{t:TypeId}(v:Value)(h:w.heap[b]?=some (.cells c t)):(w.setCell ⟨b,o,none⟩ v).heap[b]?=some (.cells (c.setIfInBounds o v) t):=by
 simp[World.setCell,Array.getElem?_modify,h]
theorem SI{b:Nat}{t:TypeId}:∀(l:List Value) (o:Nat) (c:Array Value) (w:World),w.heap[b]?=some (.cells c t)→
  (w.setCells b o l).heap[b]?=some (.cells ((l.zipIdx o).foldl (fun c x=>c.setIfInBounds x.2 x.1) c) t)
 | [],_,_,_,h=>h
 |v::l,o,c,w,h=>by
  rw[World.setCells]
  exact SI l (o+1) _ _ (dI v h)
theorem SL{b k:Nat}(hk:k≠b):∀(l:List Value) (o:Nat) (w:World),(w.setCells b o l).heap[k]?=w.heap[k]?
 | [],_,_=>rfl
 |v::l,o,w=>by
  rw[World.setCells,SL hk l (o+1)]
  exact Below.heap_setCell w _ v k hk
theorem CQ{b B:Nat}(hB:B≤b):∀(l:List Value) (o:Nat) (w:World),Below B w (w.setCells b o l)
 | [],_,w=>Below.refl _ _
 |v::l,o,w=>by
  rw[World.setCells]
  exact((Below.refl B w).setCell (p:=⟨b,o,none⟩) hB v).trans (CQ hB l (o+1) _)
theorem setCells_size{b:Nat}:∀(l:List Value) (o:Nat) (w:World),(w.setCells b o l).heap.size=w.heap.size
 | [],_,w=>rfl
 |v::l,o,w=>by
  rw[World.setCells,setCells_size l (o+1)]
  simp[World.setCell]
theorem SN(post:List Value):∀(pre l m:List Value),l.length=m.length→
  ((m.zipIdx pre.length).foldl (fun(c:Array Value) x=>c.setIfInBounds x.2 x.1) (pre++l++post).toArray)=(pre++m++post).toArray
 |_,[],[],_=>by simp
 |pre,x::l,y::m,h=>by
  have ih:=SN post (pre++[y]) l m (by simpa using h)
  simp only[List.zipIdx_cons,List.foldl_cons]
  have e:(pre++x::l++post).toArray.setIfInBounds pre.length y=((pre++[y])++l++post).toArray:=by simp
  rw[e]
  simpa using ih
def splice(c:Array Value)(o:Nat)(cs:Array Value):Array Value:=(c.toList.take o++cs.toList++c.toList.drop (o+cs.size)).toArray
theorem nZ{c cs:Array Value}(h:c.size=cs.size):splice c 0 cs=cs:=by
 have:c.toList.drop (0+cs.size)=[]:=by rw[List.drop_eq_nil_iff];simp[h]
 unfold splice;rw[this];simp
theorem Gi{c:Array Value}{o:Nat}{cs:Array Value}(h:o+cs.size≤c.size):(splice c o cs).size=c.size:=by simp[splice];omega
theorem kM{w:World}{b o:Nat}{c cs:Array Value}{t:TypeId}(h:w.heap[b]?=some (.cells c t))(ho:o+cs.size≤c.size):(putRow w b o cs).heap[b]?=some (.cells (splice c o cs) t):=by
 unfold putRow
 rw[SI cs.toList o c w h]
 have:=SN (c.toList.drop (o+cs.size)) (c.toList.take o) ((c.toList.drop o).take cs.size) cs.toList (by simp;omega)
 have e:c.toList.take o++(c.toList.drop o).take cs.size++c.toList.drop (o+cs.size)=c.toList:=by
  rw[List.append_assoc,←List.drop_drop,List.take_append_drop,List.take_append_drop]
 have ho':(c.toList.take o).length=o:=by simp;omega
 rw[e,ho']at this
 rw[show c.toList.toArray=c by simp]at this
 rw[this]
 rfl
theorem iI{w:World}{b o k:Nat}{cs:Array Value}(h:k≠b):(putRow w b o cs).heap[k]?=w.heap[k]?:=SL h _ _ _
theorem kN(w:World)(b o:Nat)(cs:Array Value):(putRow w b o cs).heap.size=w.heap.size:=setCells_size _ _ _
theorem Below.putRow{B b o:Nat}{W w:World}{cs:Array Value}(h:Below B W w)(hB:B≤b):Below B W (Go.WW.putRow w b o cs):=h.trans (CQ hB _ _ _)
theorem SQ{w:World}{b o n:Nat}(h:aS w b o n=true):∃c t,w.heap[b]?=some (.cells c t)∧o+n≤c.size:=by
 unfold aS at h
 split at h
 ·rename_i c t f hb
  simp only[Bool.and_eq_true,decide_eq_true_eq]at h
  obtain⟨h1,rfl⟩:=h
  exact⟨c,t,hb,h1⟩
 ·cases h
theorem iO{w:World}{b n:Nat}{cs:Array Value}(hn:cs.size=n)(hc:aS w b 0 n=true):row? (putRow w b 0 cs) b 0 n=some cs:=by
 subst hn
 obtain⟨c,t,hb,hs⟩:=SQ hc
 unfold row?
 rw[kM hb hs]
 have hs':0+cs.size≤(splice c 0 cs).size:=by rw[Gi hs];exact hs
 show(if 0+cs.size≤(splice c 0 cs).size then _ else _)=_
 rw[if_pos hs']
 simp[splice]
theorem aeE{w:World}{b j:Nat}{cs:Array Value}(hc:aS w b 0 cs.size=true)(hj:j<cs.size):(putRow w b 0 cs).cell? ⟨b,j,none⟩=cs[j]?:=by
 have:=gX (iO rfl hc) j hj
 simpa using this
theorem aeF{w:World}{b o k o' n:Nat}{cs:Array Value}(h:k≠b):row? (putRow w b o cs) k o' n=row? w k o' n:=gZ (iI h) o' n
theorem cell?_putRow_other{w:World}{b o k o':Nat}{cs:Array Value}(h:k≠b):(putRow w b o cs).cell? ⟨k,o',none⟩=w.cell? ⟨k,o',none⟩:=World.cell?_of_block (a:=⟨k,o',none⟩) (iI h)
theorem SS{w:World}{b o k o' n:Nat}{cs:Array Value}(h:k≠b):aS (putRow w b o cs) k o' n=aS w k o' n:=sS (iI h) o' n
theorem aeG{P:Program}{w:World}{b o:Nat}{cs:Array Value}(hc:aS w b o cs.size=true)(h1:dJ cs=true):(storeCells ⟨b,o,none⟩ cs.toList).run P w=.ok () (putRow w b o cs):=by
 have ht:=Qz hc
 have h0:=run_storeCells_cells (P:=P) b o cs.toList 0 w (fun j hj=>(ht j (by simpa using hj)).1) (fun j hj=>(ht j (by simpa using hj)).2) (fun u hu=>by unfold dJ at h1;rw[Array.all_eq_true']at h1;exact h1 u (by simpa using hu))
 unfold putRow
 simpa using h0
theorem lY{w:World}{b o n:Nat}{c:Array Value}{t:TypeId}(h:w.heap[b]?=some (.cells c t))(hn:o+n≤c.size):aS w b o n=true:=by unfold aS;rw[h];simp[hn]
theorem bQ{w:World}{b o n:Nat}{c:Array Value}{t:TypeId}(h:w.heap[b]?=some (.cells c t)):row? w b o n=fO c o n:=by unfold row? fO;rw[h]
theorem gG{W w1:World}(hb:Below W.heap.size W w1):∀b o n,b<W.heap.size→aS w1 b o n=aS W b o n:=fun b o n h=>sS (hb.block b h) o n
theorem aeH(w:World)(b o n:Nat):aS w.drew b o n=aS w b o n:=rfl
attribute [go_sem] iO aeE aeF cell?_putRow_other SS aeG aeH
end Go.WW
namespace Go.Proofs.YtfieenjdcpjmgaaGreatDoor
open Go.RowKit Go.WW
theorem SV(n:Int):(lX n).size=8:=by obtain⟨a,b,c,d,h,_⟩:=Gh n;rw[h];rfl
theorem aeI(n:Int):dJ (lX n)=true:=by
 obtain⟨a,b,c,d,h,h1⟩:=Gh n
 rw[h]
 simp[dJ,Value.oneCell']at h1 ⊢
 exact⟨h1.1,h1.2.1,h1.2.2.1,h1.2.2.2⟩
theorem J8(n:Int):(lX n)[1]?=some (.int .i64 (dV n)):=by obtain⟨a,b,c,d,h,_⟩:=Gh n;rw[h];rfl
theorem aeJ(n:Int)(h:1<(lX n).size):(lX n)[1]'h=.int .i64 (dV n):=by
 have:=J8 n;rw[Array.getElem?_eq_getElem h]at this;exact Option.some.inj this
attribute [go_sem] SV aeI J8 aeJ
theorem aeK(w:World)(b o:Nat):(jU 354 (.pointer (some ⟨b,o,none⟩))).run Tryz.prog w=qJ Tryz.prog 354 w b o (row? w b o 8):=uM Tryz.underlying354 rfl (by kernel_rfl) w b o
theorem aeL(ρ:Operand→Value)(dst:Option Tmp)(x:Operand)(ty:TypeId)(pos:String)(after:Array Edge)(guard:Option (Nat×Bool)):execOp ρ {dst,op:=.load 354 x,type:=ty,pos,after,guard}=jU 354 (ρ x):=rfl
attribute [go_sem] aeK
attribute [go_sem ↓] aeL
theorem aeM(w:World)(b o:Nat)(cs:Array Value)(hn:cs.size=8)(h1:dJ cs=true):(kU 354 (.pointer (some ⟨b,o,none⟩)) (.agg cs)).run Tryz.prog w=sQ Tryz.prog 354 w b o cs (aS w b o 8):=wK (by kernel_rfl) w b o cs hn h1
theorem aeN(ρ:Operand→Value)(dst:Option Tmp)(x y:Operand)(ty:TypeId)(pos:String)(after:Array Edge)(guard:Option (Nat×Bool)):execOp ρ {dst,op:=.store 354 x y,type:=ty,pos,after,guard}=kU 354 (ρ x) (ρ y):=rfl
attribute [go_sem] aeM
attribute [go_sem ↓] aeN
theorem aeO(w:World):Calls Tryz.prog 346 #[] w fun e w'=>∃r,e=.returned (.map (some r))∧w'.heap[r]?=some (.map yu 2)∧Below w.heap.size w w':=(SG w).mono fun _ _ ⟨h1,h2,h3⟩=>⟨_,h1,h2,h3⟩
theorem SX(n:Int){w:World}{r:Nat}(hb:w.heap[r]?=some (.map yu 2)):(Instr.lookup 355 (.map (some r)) (.int .i64 n) true).run Tryz.prog w=.ok (.tuple #[.agg (lX n),.bool (oU n)]) w:=SH true n hb
theorem below2(w:World)(a b:Obj):Below w.heap.size w ((w.alloc a).alloc b).drew:=(((Below.refl _ w).alloc (Nat.le_refl _) _).alloc (by simp) _).drew
theorem below3(w:World)(a b c:Obj):Below w.heap.size w (((w.alloc a).alloc b).alloc c).drew:=((((Below.refl _ w).alloc (Nat.le_refl _) _).alloc (by simp) _).alloc (by simp;omega) _).drew
theorem aeP(c:Array Value)(h:c.size=8)(x:Value)(h1:c[1]?=some x):#[c[0]'(by omega),x,c[2]'(by omega),c[3]'(by omega),c[4]'(by omega),c[5]'(by omega),c[6]'(by omega),c[7]'(by omega)]=c:=by
 obtain⟨l⟩:=c
 match l,h with
 | [a0,a1,a2,a3,a4,a5,a6,a7],_=>simp at h1 ⊢;exact h1.symm
theorem aeQ(k:Key):oU k.profile=false∨(oU k.profile=true∧((k.bytes.length:Int) == dV k.profile)=false)∨(oU k.profile=true∧((k.bytes.length:Int) == dV k.profile)=true∧decide (0≤k.version)=false)∨
  (oU k.profile=true∧((k.bytes.length:Int) == dV k.profile)=true∧decide (0≤k.version)=true):=by
 cases oU k.profile<;>cases ((k.bytes.length:Int) == dV k.profile)<;>cases decide (0≤k.version)<;>simp
theorem aeR(k:Key):nH k=(oU k.profile&&((k.bytes.length:Int) == dV k.profile)&&decide (0≤k.version)&&decide (k.version≤65535)):=by
 have:decide (0<dV k.profile)=oU k.profile:=by
  unfold dV oU
  by_cases h1:k.profile=1
  ·rw[h1];rfl
  ·by_cases h2:k.profile=2
   ·rw[h2];rfl
   ·have e1:(k.profile == 1)=false:=by simpa using h1
    have e2:(k.profile == 2)=false:=by simpa using h2
    rw[e1,e2];rfl
 rw[nH,this,aF,Bool.and_assoc,Bool.and_assoc,Bool.and_assoc]
theorem aeS(s:Sl)(k:Key)(w:World):Calls Tryz.prog 347 #[.agg (bZ s k)] w fun e w'=>e=.returned (.tuple #[.agg (lX k.profile),.bool (nH k)])∧Below w.heap.size w w':=by
 rw[aeR]
 go_enter Tryz.func347,Tryz.ntmps347
 go_wp2_with fail
 have hne:w.heap.size≠w.heap.size+1+1:=by omega
 have hne1:w.heap.size+1≠w.heap.size+1+1:=by omega
 go_region_with (go_at_call 346;refine(aeO _).mono ?_;rintro e w1 ⟨r,rfl,hm,hb⟩;have hsz:w.heap.size+1<w1.heap.size:=(by have:=hb.size;simp at this;omega);have hsz0:w.heap.size<w1.heap.size:=Nat.lt_of_succ_lt hsz;have hsz1:r<w1.heap.size:=(Array.getElem?_eq_some_iff.1 hm).1;obtain⟨hcc,aT,hrr⟩:=bg hb;have hB:Below w.heap.size w w1:=(by first|exact ag (below2 w _ _) hb|exact ag (below3 w _ _ _) hb);have hpp:=gG hb;have hlk:=SX k.profile hm;have apL:=fun o=>SX (w:=w1.alloc o) k.profile ((Below.heap_alloc w1 o _ (Array.getElem?_eq_some_iff.1 hm).1).trans hm))
 all_goals rcases aeQ k with c1|⟨c1,c2⟩|⟨c1,c2,c3⟩|⟨c1,c2,c3⟩
 all_goals go_wp2_with fail
 all_goals refine bodyPost_ret (v:=.tuple #[.agg (lX k.profile),.bool (oU k.profile&&((k.bytes.length:Int) == dV k.profile)&&decide (0≤k.version)&&decide (k.version≤65535))]) (by simp[results,Tryz.results347,go_sem, *];exact aeP _ (SV _) _ (J8 _)) rfl ⟨rfl,?_⟩
 all_goals first
  |exact Go.WW.Below.putRow (hB.alloc hB.size _) (by omega)
  |exact Go.WW.Below.putRow (Go.WW.Below.putRow hB (by omega)) (by omega)
end Go.Proofs.YtfieenjdcpjmgaaGreatDoor
namespace Go.WW
theorem aeT{m v:Int}{k:Key}(h:(k.version != v)=true):iL m v k=false:=by rw[iL,h];simp
theorem aeU{m v:Int}{k:Key}(h:(dV k.profile == 0)=true):iL m v k=false:=by rw[iL,h];simp
theorem aeV{m v:Int}{k:Key}(h:(k.version != v)=false)(h2:(dV k.profile == 0)=false)(h3:(m == 0)=true):iL m v k=nH k:=by rw[iL,h,h2,h3];simp
theorem aeW{m v:Int}{k:Key}(h:(k.version != v)=false)(h2:(dV k.profile == 0)=false)(h3:(m == 0)=false):iL m v k=aF k.bytes.length 1 256:=by rw[iL,h,h2,h3];simp
theorem aeX{m:Int}{x:bC}(h:aF x.version 1 65535=false):iw m x=false:=by rw[iw,jc,h];simp
theorem aeY{m:Int}{x:bC}(h:decide (1≤(x.keys.length:Int))=false):iw m x=false:=by
 have e:aF x.keys.length 1 4=false:=by rw[aF,h];rfl
 rw[iw,jc,e];simp
theorem aeZ{m:Int}{x:bC}(h:(decide ((x.keys.length:Int)≤4)&&x.keys.all (iL m x.version))=false):iw m x=false:=by
 rw[Bool.and_eq_false_iff]at h
 rcases h with h|h
 ·rw[iw,jc,show aF x.keys.length 1 4=false by rw[aF,h];simp];simp
 ·rw[iw,h];simp
theorem ae0{m:Int}{x:bC}(h:ordered mQ x.keys=false):iw m x=false:=by rw[iw,h];simp
theorem ae1{m:Int}{x:bC}(h2:decide (1≤(x.keys.length:Int))=true)(h3:(decide ((x.keys.length:Int)≤4)&&x.keys.all (iL m x.version))=true)(h4:ordered mQ x.keys=true):iw m x=jc x∧aF x.keys.length 1 4=true:=by
 rw[Bool.and_eq_true]at h3
 exact⟨by rw[iw,h3.2,h4];rfl,by rw[aF,h2,h3.1];rfl⟩
end Go.WW
namespace Go.Proofs.YtfieenjdcpjmgaaGreatDoor
open Go.RowKit Go.WW
theorem ae2(s:Sl)(k:Key)(w:World):Calls Tryz.prog 280 #[.agg (bZ s k)] w fun e w'=>e=.returned (.bool (nH k))∧Below w.heap.size w w':=by
 go_enter Tryz.func280,Tryz.ntmps280
 go_wp2_with fail
 refine(aeS _ _ _).mono ?_
 rintro e w1 ⟨rfl,hb⟩
 have hB:Below w.heap.size w w1:=ag ((Below.refl _ w).alloc (Nat.le_refl _) _) hb
 go_wp2_with fail
 go_ret
 exact⟨rfl,hB.alloc hB.size _⟩
theorem ae3(s:Sl)(k:Key)(B0 B1:Nat)(m v:Int)(w:World)(hl:k.bytes.length≤lim)(h0:w.cell? ⟨B0,0,none⟩=some (.int .i64 v))(h1:w.cell? ⟨B1,0,none⟩=some (.int .i64 m)) :
  Calls Tryz.prog 278 #[.agg (bZ s k),.pointer (some ⟨B0,0,none⟩),.pointer (some ⟨B1,0,none⟩)] w fun e w'=>e=.returned (.bool (iL m v k))∧Below w.heap.size w w':=by
 have hb0:B0<w.heap.size:=World.block_lt_of_cell? w _ h0
 have hb1:B1<w.heap.size:=World.block_lt_of_cell? w _ h1
 have hl':k.bytes.length≤4294967000:=hl
 have hB:Below w.heap.size w (w.alloc (.cells (bZ s k) 69)):=(Below.refl _ w).alloc (Nat.le_refl _) _
 go_enter Tryz.func278,Tryz.ntmps278
 cases c1:(k.version != v)
 ·go_wp2_with fail
  refine(aeD _ _).mono ?_
  rintro e w1 ⟨rfl,hb⟩
  have hB1:=ag hB hb
  obtain⟨hcc,aT,hrr⟩:=bg hb
  have hsz:w.heap.size<w1.heap.size:=by have:=hb.size;simp at this;omega
  cases c2:(dV k.profile == 0)
  ·cases c3:(m == 0)
   ·have HN:=Lib.hid (aeW c1 c2 c3)
    go_wp2_with (go_at_call 118;refine(uO _ _ _ _).mono ?_;rintro e w' ⟨rfl,rfl⟩)
    go_ret
    exact⟨by rw[HN.out];rfl,hB1⟩
   ·have HN:=Lib.hid (aeV c1 c2 c3)
    go_wp2_with fail
    refine(ae2 _ _ _).mono ?_
    rintro e w2 ⟨rfl,hb2⟩
    go_wp2_with fail
    go_ret
    exact⟨by rw[HN.out];rfl,ag hB1 hb2⟩
  ·have HN:=Lib.hid (aeU (m:=m) (v:=v) c2)
   go_wp2_with fail
   go_ret
   exact⟨by rw[HN.out];rfl,hB1⟩
 ·have HN:=Lib.hid (aeT (m:=m) c1)
  go_wp2_with fail
  go_ret
  exact⟨by rw[HN.out];rfl,hB⟩
theorem ae4:Enters 278:=⟨fun args w=>by kernel_rfl⟩
end Go.Proofs.YtfieenjdcpjmgaaGreatDoor
namespace Go.WW
open Go.RowKit
def dZ(l:List UInt8):List (Array Value):=l.map fun c=>#[.int .u8 c.toNat]
theorem ae5(l:List UInt8)(c:UInt8):dZ l++[#[.int .u8 c.toNat]]=dZ (l++[c]):=by simp[dZ]
theorem fP(l:List UInt8):(dZ l).length=l.length:=by simp[dZ]
theorem Gj(l:List UInt8):(esc l).length≤2*l.length:=by
 induction l with
 |nil=>simp[esc]
 |cons c l ih=>
   rw[Am,List.length_append,List.length_cons];have:(lC c).length≤2:=by unfold lC;split<;>simp
   omega
theorem ae6{l:List ByteArray}(h:∀s∈l,s.size≤32):(lF l).length≤65*l.length:=by
 induction l with
 |nil=>simp[lF]
 |cons s l ih=>
  have e:lF (s::l)=47::esc s.data.toList++lF l:=by simp[lF]
  have h1:=h s (by simp)
  have h2:=Gj s.data.toList
  have h3:=ih (fun x hx=>h x (by simp[hx]))
  have h4:s.data.toList.length=s.size:=by simp
  rw[e,List.length_append,List.length_cons,List.length_cons]
  omega
theorem SY{l:List ByteArray}(h:∀s∈l,s.size≤32):(iM l).length≤65*l.length:=by
 cases l with
 |nil=>simp[iM]
 |cons s l=>
  have h1:=h s (by simp)
  have h2:=Gj s.data.toList
  have h3:=ae6 (l:=l) (fun x hx=>h x (by simp[hx]))
  have h4:s.data.toList.length=s.size:=by simp
  rw[iM,List.length_append,List.length_cons]
  omega
theorem ae7{p:az}(h:bG p=true):p.parts.length≤4∧(∀s∈p.parts,s.size≤32)∧p.aG.size≤32:=by
 simp only[bG,Bool.and_eq_true,List.all_eq_true,decide_eq_true_eq]at h
 refine⟨by omega,fun s hs=>?_,?_⟩
 ·have:=h.1.1.1 s hs
  simp only[jF,sized,Bool.and_eq_true,decide_eq_true_eq]at this
  omega
 ·have:=h.2
  simp only[gU,sized,Bool.and_eq_true,decide_eq_true_eq]at this
  omega
theorem take_snoc'(s:ByteArray)(j:Nat)(h:j<s.size):s.data.toList.take (j+1)=s.data.toList.take j++[s[j]]:=by
 rw[List.take_succ_eq_append_getElem (by simpa using h)];rfl
end Go.WW
namespace Go.Proofs.YtfieenjdcpjmgaaGreatDoor
open Go.RowKit Go.WW
theorem Gl(c:UInt8)(w:World):Calls Tryz.prog 206 #[.int .u8 c.toNat] w fun e w'=>e=.returned (.bool (oQ c))∧w=w':=by
 go_enter Tryz.func206,Tryz.ntmps206
 cases c1:((c.toNat:Int) == 47)
 ·cases c2:((c.toNat:Int) == 64)
  ·have HN:=Lib.hid (show oQ c=((c.toNat:Int) == 92) by rw[oQ,c1,c2];rfl)
   go_wp2_with fail
   go_ret
   exact⟨by rw[HN.out];rfl,rfl⟩
  ·have HN:=Lib.hid (show oQ c=true by rw[oQ,c1,c2];rfl)
   go_wp2_with fail
   go_ret
   exact⟨by rw[HN.out];rfl,rfl⟩
 ·have HN:=Lib.hid (show oQ c=true by rw[oQ,c1];rfl)
  go_wp2_with fail
  go_ret
  exact⟨by rw[HN.out];rfl,rfl⟩
theorem eF:gp Tryz.prog 61 5 1 1:=gp.of Tryz.underlying61 (by kernel_rfl)
end Go.Proofs.YtfieenjdcpjmgaaGreatDoor
namespace Go.WW
open Go.RowKit
theorem foldl_push(l:List UInt8):∀(acc:List UInt8),((l.map fun c=>((c.toNat:Nat):Int)).foldl (fun(r:ByteArray) n=>r.push (UInt8.ofNat n.toNat)) ⟨acc.toArray⟩)=⟨(acc++l).toArray⟩:=by
 induction l with
 |nil=>intro acc;simp
 |cons c l ih=>
  intro acc
  rw[List.map_cons,List.foldl_cons]
  have e:(ByteArray.mk acc.toArray).push (UInt8.ofNat ((c.toNat:Nat):Int).toNat)=⟨(acc++[c]).toArray⟩:=by
   simp[ByteArray.push]
  rw[e,ih]
  simp
theorem J9{P:Program}(w:World)(src dst e:TypeId)(hs:P.underlying src=some (.slice e))(he:P.underlying e=some (.int .u8))(hd:P.underlying dst=some .string)(b o cap:Nat)(l:List UInt8)
  (h:∀i (hi:i<l.length),w.cell? ⟨b,o+i,none⟩=some (.int .u8 l[i].toNat)):(convert src dst (.slice (some ⟨b,o,none⟩) l.length cap)).run P w=.ok (.string ⟨l.toArray⟩) w:=by
 rw[run_convert_bytes_string w src dst e _ _ _ hs he hd]
 have hl:(loadCells ⟨b,o,none⟩ l.length).run P w=.ok ((l.map fun c=>((c.toNat:Nat):Int)).map (Value.int .u8)).toArray w:=by
  have:=run_loadCells_list (P:=P) w ⟨b,o,none⟩ ((l.map fun c=>((c.toNat:Nat):Int)).map (Value.int .u8)) (fun j v hv=>by
   have hj:j<l.length:=by have:=(List.getElem?_eq_some_iff.1 hv).1;simpa using this
   have hadd:(⟨b,o,none⟩:Addr).add j=⟨b,o+j,none⟩:=by unfold Addr.add;split<;>simp_all
   rw[hadd,h j hj]
   simp[hj]at hv
   rw[←hv])
  simpa using this
 rw[run_bytesToString w _ _ _ _ hl]
 have e0:ByteArray.empty=⟨([]:List UInt8).toArray⟩:=rfl
 rw[e0,foldl_push,List.nil_append]
theorem gI{P:Program}{ops:Array Oper}{rest:List Oper}{o:Oper}{a:Act}{w:World}{Q:Exit→Act→World→Prop}(hgd:o.guard=none)(x y:Operand)(t:TypeId)(ho:o.op=.call {callee:=.builtin .append,args:=#[x,y],argTypes:=#[t,t]})
  {e:TypeId} {k bytes:Nat} (he:gp P t e k bytes) {base:Nat} {s:Sl} {n:Nat} {rows:List (Array Value)} (hx:a.eval x=.slice s.a n s.cap) (hn:n=rows.length) (h:Own w base e k s rows) {A:Option Addr} {news:List (Array Value)} {m c:Nat}
  (hy:a.eval y=.slice A m c) (hm:m=news.length) (hs:cZ w k A news) (hlen:(rows.length+news.length)*(bytes+1)≤140737488355328) (hbase:base≤w.heap.size)
  (hK:∀(s':Sl) w',Own w' base e k s' (rows++news)→w.grownBy w' s.blk→(s'.blk=s.blk∨s'.blk=some w.heap.size)→wpList P ops Q rest (a.put o.dst (.slice s'.a (n+m) s'.cap)) w'):wpList P ops Q (o::rest) a w:=by
 subst hn hm
 exact aed hgd x y t ho he hx h hy rfl hs hlen hbase hK
end Go.WW
namespace Go.Proofs.YtfieenjdcpjmgaaGreatDoor
open Go.RowKit Go.WW
structure tC(W wr:World)(sb:Sl)(l:List UInt8):Prop where
 b:Below W.heap.size W wr
 own:Go.WW.Own wr W.heap.size 5 1 sb (dZ l)
theorem tC.app{W wr w':World}{sb s':Sl}{l:List UInt8}{c:UInt8}{o:Obj}(h:tC W wr sb l)(hown:Go.WW.Own w' W.heap.size 5 1 s' (dZ l++[#[.int .u8 c.toNat]]))(hg:(wr.alloc o).grownBy w' sb.blk):tC W w' s' (l++[c]):=
 ⟨(h.b.alloc h.b.size _).grown hg (by have:=h.b.size;simp;omega) (fun k e=>(h.own.base e).1),by rw[←ae5];exact hown⟩
theorem tC.up{W wr:World}{sb:Sl}{l:List UInt8}(h:tC W wr sb l)(o:Obj):Go.WW.Own (wr.alloc o) W.heap.size 5 1 sb (dZ l):=h.own.kept fun g hg=>Below.heap_alloc wr o g (h.own.base hg).2
theorem tC.sz{W wr:World}{sb:Sl}{l:List UInt8}(h:tC W wr sb l)(o:Obj):W.heap.size≤(wr.alloc o).heap.size:=by have:=h.b.size;simp;omega
theorem ae8{p:az}(h:bG p=true):0<(iM p.parts).length:=by
 have hne:=tu h
 simp only[bG,Bool.and_eq_true,List.all_eq_true]at h
 cases hl:p.parts with
 |nil=>exact absurd hl hne
 |cons q l=>
  have:=h.1.1.1 q (by rw[hl];simp)
  simp only[jF,sized,Bool.and_eq_true,decide_eq_true_eq]at this
  have h1:0<q.data.toList.length:=by
    have h2:q.data.toList.length=q.size:=by simp
    omega
  cases hd:q.data.toList with
  |nil=>rw[hd]at h1;simp at h1
  |cons c d=>
   rw[iM,hd,Am,List.length_append,List.length_append]
   have:0<(lC c).length:=by unfold lC;split<;>simp
   omega
theorem ae9{p:az}{L:List UInt8}(h:L=iM p.parts):textOf p=(ByteArray.mk L.toArray++ByteArray.mk #[64])++p.aG:=by
 obtain⟨pp,⟨⟨r⟩⟩⟩:=p
 subst h
 have e1:=ByteArray.mk_append_mk (iM pp) [64]
 have e2:=ByteArray.mk_append_mk (iM pp++[64]) r
 rw[show(ByteArray.mk #[64])=ByteArray.mk ([64]:List UInt8).toArray from rfl,e1]
 show _=ByteArray.mk (iM pp++[64]).toArray++ByteArray.mk r.toArray
 rw[e2]
 simp[textOf,qZ]
theorem Tc(l:List ByteArray)(k:Nat)(h:k<l.length):iM (l.take (k+1))=(if k=0 then []else iM (l.take k)++[47])++esc l[k].data.toList:=by
 rw[List.take_succ_eq_append_getElem h,ad5]
 have e:(l.take k).length=k:=by simp;omega
 rw[e]
theorem Td(s:Sl)(p:az)(w:World)(hp:bn w s p)(hok:bG p=true):Calls Tryz.prog 128 #[.agg (ah s p)] w fun e w'=>e=.returned (.tuple #[.string (textOf p),.int .i64 0])∧Below w.heap.size w w':=by
 obtain⟨hlen,Tf,hrl⟩:=ae7 hok
 have hp0:0<p.parts.length:=List.length_pos_iff.2 (tu hok)
 have hB0:Below w.heap.size w (w.alloc (.cells (ah s p) 40)):=(Below.refl _ w).alloc (Nat.le_refl _) _
 obtain⟨sa,scap⟩:=s
 obtain⟨b,o,ha,-,-⟩:=hp.1.get 0 hp0
 dsimp only at ha
 subst ha
 have hpL:=hp.later hB0
 go_enter Tryz.func128,Tryz.ntmps128
 go_wp2_with fail
 refine(Ai _ _ _ hpL).mono ?_
 rintro e w1 ⟨rfl,hb1⟩
 rw[hok]
 obtain⟨hcc,aT,hrr⟩:=bg hb1
 have hsz:w.heap.size<w1.heap.size:=by have:=hb1.size;simp at this;omega
 go_wp2_with fail
 clear hcc aT hrr hsz
 have HS:=Lib.hid Tf
 clear Tf
 have hc1:(w.alloc (.cells (ah ⟨some ⟨b,o,none⟩,scap⟩ p) 40)).cell? ⟨w.heap.size,1,none⟩=some (.string p.aG):=by simp[go_sem]
 have hW:w.heap.size<(w.alloc (.cells (ah ⟨some ⟨b,o,none⟩,scap⟩ p) 40)).heap.size:=by simp
 generalize w.alloc (.cells (ah ⟨some ⟨b,o,none⟩,scap⟩ p) 40)=W0 at *
 go_loopw [4,14] (fun bv i wr=>∃(k:Nat) (sb:Sl),k≤p.parts.length∧i=.int .i64 k∧bv=.slice sb.a (iM (p.parts.take k)).length sb.cap∧tC W0 wr sb (iM (p.parts.take k))) (fun _ i _=>p.parts.length-(intOf i).toNat)
 case atStart=>exact⟨0,⟨none,0⟩,Nat.zero_le _,rfl,rfl,hb1,Go.WW.Own.nil _ _ _ _⟩
 case round=>
  obtain⟨k,sb,hk,rfl,rfl,hR⟩:=hrel
  by_cases hlt:k<p.parts.length
  ·obtain⟨hcc,hss⟩:=(hpL.later hR.b).1.at k hlt
   have hbb:b<wr.heap.size:=World.block_lt_of_cell? wr _ hcc
   have hps:p.parts[k].size≤32:=HS.out _ (List.getElem_mem hlt)
   have hlt4:(iM (p.parts.take k)).length≤260:=by
    have h1:=SY (l:=p.parts.take k) (fun x hx=>HS.out x (List.mem_of_mem_take hx))
    have h2:(p.parts.take k).length≤k:=List.length_take_le _ _
    omega
   by_cases hk0:k=0
   ·obtain⟨L1,hL1⟩:∃L:List UInt8,L=[]:=⟨_,rfl⟩
    have afa:L1.length≤261:=by rw[hL1];simp
    have HL:=Lib.hid (show L1++esc p.parts[k].data.toList=iM (p.parts.take (k+1)) by rw[Tc _ _ hlt,if_pos hk0,hL1])
    have HK:=Lib.hid (show iM (p.parts.take k)=L1++esc (p.parts[k].data.toList.take 0) by subst hk0;subst hL1;simp[iM,esc])
    have hk1:decide (0<k)=false:=by simp[hk0]
    have hk2:¬(0:Int)<(k:Int):=by omega
    clear hL1 hk0
    go_wp2_with fail
    go_loopw [4,26] (fun bv i wr=>∃(j:Nat) (sb:Sl),j≤p.parts[k].size∧i=.int .i64 j∧bv=.slice sb.a (L1++esc (p.parts[k].data.toList.take j)).length sb.cap∧tC W0 wr sb (L1++esc (p.parts[k].data.toList.take j))) (fun _ i _=>p.parts[k].size-(intOf i).toNat)
    case atStart=>exact⟨0,sb,Nat.zero_le _,rfl,by rw[HK.out],by rw[←HK.out];exact hR⟩
    case round=>
     clear hR
     obtain⟨j,sc,hj,rfl,hbv,hI⟩:=hrel
     obtain⟨Lj,yw⟩:∃L,L=L1++esc (p.parts[k].data.toList.take j):=⟨_,rfl⟩
     rw[←yw]at hbv hI
     subst hbv
     have HJ:=Lib.hid yw
     clear yw
     by_cases hjt:j<p.parts[k].size
     ·have jm:=Gj (p.parts[k].data.toList.take j)
      have hel:(p.parts[k].data.toList.take j).length≤j:=List.length_take_le _ _
      have hLL:Lj.length≤1000:=by rw[HJ.out,List.length_append];omega
      have HT:=Lib.hid (take_snoc' p.parts[k] j hjt)
      cases hsp:oQ p.parts[k][j]
      ·have HN:=Lib.hid (show lC p.parts[k][j]=[p.parts[k][j]] by rw[lC,hsp];rfl)
       go_wp2_with (first|(go_at_call 206;refine(Gl _ _).mono ?_;rintro e w' ⟨rfl,rfl⟩;rw[hsp])|(at_builtin;refine gI rfl (.tmp 36) (.tmp 40) _ rfl eF rfl (fP _).symm (hI.up _) rfl rfl (cZ.new _ #[.int .u8 p.parts[k][j].toNat] _ _ rfl (by simp[dJ,Value.oneCell'])) (by rw[fP];simp;omega) (hI.sz _) ?_;intro s2 w2 hown hg hat;have hR2:=hI.app (c:=p.parts[k][j]) hown hg;clear hown hg hat))
       go_roundw
       case rel=>exact⟨j+1,s2,by omega,by go_num,by rw[HT.out,wQ,HN.out,←List.append_assoc,←HJ.out];simp,by rw[HT.out,wQ,HN.out,←List.append_assoc,←HJ.out];exact hR2⟩
       case measure=>simp[intOf];omega
      ·have HN:=Lib.hid (show lC p.parts[k][j]=[92,p.parts[k][j]] by rw[lC,hsp];rfl)
       go_wp2_with (first|(go_at_call 206;refine(Gl _ _).mono ?_;rintro e w' ⟨rfl,rfl⟩;rw[hsp])|(at_builtin;refine gI rfl (.tmp 33) (.tmp 34) _ rfl eF rfl (fP _).symm (hI.up _) rfl rfl (cZ.new _ #[.int .u8 92] _ _ rfl (by simp[dJ,Value.oneCell'])) (by rw[fP];simp;omega) (hI.sz _) ?_;intro s2 w2 hown hg hat;have hR2:=hI.app (c:=92) hown hg;clear hown hg hat)|(at_builtin;refine gI rfl (.tmp 36) (.tmp 40) _ rfl eF rfl (by rw[fP];simp) (hR2.up _) rfl rfl (cZ.new _ #[.int .u8 p.parts[k][j].toNat] _ _ rfl (by simp[dJ,Value.oneCell'])) (by rw[fP];simp;omega) (hR2.sz _) ?_;intro s3 w3 hown hg hat;have dh:=hR2.app (c:=p.parts[k][j]) hown hg;clear hown hg hat))
       go_roundw
       case rel=>exact⟨j+1,s3,by omega,by go_num,by rw[HT.out,wQ,HN.out,←List.append_assoc,←HJ.out];simp,by rw[HT.out,wQ,HN.out,←List.append_assoc,←HJ.out];simpa using dh⟩
       case measure=>simp[intOf];omega
     ·have HE:=Lib.hid (show Lj=iM (p.parts.take (k+1)) by
       rw[HJ.out,List.take_of_length_le (by simp;omega)];exact HL.out)
      go_wp2_with fail
      go_roundw
      case rel=>exact⟨k+1,sc,by omega,by go_num,by rw[HE.out],by rw[←HE.out];exact hI⟩
      case measure=>simp[intOf];omega
   ·obtain⟨L1,hL1⟩:∃L:List UInt8,L=iM (p.parts.take k)++[47]:=⟨_,rfl⟩
    have afa:L1.length≤261:=by rw[hL1,List.length_append];simp;omega
    have HL:=Lib.hid (show L1++esc p.parts[k].data.toList=iM (p.parts.take (k+1)) by rw[Tc _ _ hlt,if_neg hk0,hL1])
    have hk1:decide (0<k)=true:=by simp;omega
    have hk2:(0:Int)<(k:Int):=by omega
    have HK:=Lib.hid hL1
    clear hL1
    go_wp2_with (at_builtin;refine gI rfl (.tmp 21) (.tmp 22) _ rfl eF rfl (fP _).symm (hR.up _) rfl rfl (cZ.new _ #[.int .u8 47] _ _ rfl (by simp[dJ,Value.oneCell'])) (by rw[fP];simp;omega) (hR.sz _) ?_;intro s1 w1' hown hg hat;have hR1:=hR.app (c:=47) hown hg;clear hown hg hat)
    go_loopw [4,26] (fun bv i wr=>∃(j:Nat) (sb:Sl),j≤p.parts[k].size∧i=.int .i64 j∧bv=.slice sb.a (L1++esc (p.parts[k].data.toList.take j)).length sb.cap∧tC W0 wr sb (L1++esc (p.parts[k].data.toList.take j))) (fun _ i _=>p.parts[k].size-(intOf i).toNat)
    case atStart=>exact⟨0,s1,Nat.zero_le _,rfl,by rw[HK.out];simp[esc],by simp only[List.take_zero,JW,List.append_nil];rw[HK.out];exact hR1⟩
    case round=>
     clear hR
     obtain⟨j,sc,hj,rfl,hbv,hI⟩:=hrel
     obtain⟨Lj,yw⟩:∃L,L=L1++esc (p.parts[k].data.toList.take j):=⟨_,rfl⟩
     rw[←yw]at hbv hI
     subst hbv
     have HJ:=Lib.hid yw
     clear yw
     by_cases hjt:j<p.parts[k].size
     ·have jm:=Gj (p.parts[k].data.toList.take j)
      have hel:(p.parts[k].data.toList.take j).length≤j:=List.length_take_le _ _
      have hLL:Lj.length≤1000:=by rw[HJ.out,List.length_append];omega
      have HT:=Lib.hid (take_snoc' p.parts[k] j hjt)
      cases hsp:oQ p.parts[k][j]
      ·have HN:=Lib.hid (show lC p.parts[k][j]=[p.parts[k][j]] by rw[lC,hsp];rfl)
       go_wp2_with (first|(go_at_call 206;refine(Gl _ _).mono ?_;rintro e w' ⟨rfl,rfl⟩;rw[hsp])|(at_builtin;refine gI rfl (.tmp 36) (.tmp 40) _ rfl eF rfl (fP _).symm (hI.up _) rfl rfl (cZ.new _ #[.int .u8 p.parts[k][j].toNat] _ _ rfl (by simp[dJ,Value.oneCell'])) (by rw[fP];simp;omega) (hI.sz _) ?_;intro s2 w2 hown hg hat;have hR2:=hI.app (c:=p.parts[k][j]) hown hg;clear hown hg hat))
       go_roundw
       case rel=>exact⟨j+1,s2,by omega,by go_num,by rw[HT.out,wQ,HN.out,←List.append_assoc,←HJ.out];simp,by rw[HT.out,wQ,HN.out,←List.append_assoc,←HJ.out];exact hR2⟩
       case measure=>simp[intOf];omega
      ·have HN:=Lib.hid (show lC p.parts[k][j]=[92,p.parts[k][j]] by rw[lC,hsp];rfl)
       go_wp2_with (first|(go_at_call 206;refine(Gl _ _).mono ?_;rintro e w' ⟨rfl,rfl⟩;rw[hsp])|(at_builtin;refine gI rfl (.tmp 33) (.tmp 34) _ rfl eF rfl (fP _).symm (hI.up _) rfl rfl (cZ.new _ #[.int .u8 92] _ _ rfl (by simp[dJ,Value.oneCell'])) (by rw[fP];simp;omega) (hI.sz _) ?_;intro s2 w2 hown hg hat;have hR2:=hI.app (c:=92) hown hg;clear hown hg hat)|(at_builtin;refine gI rfl (.tmp 36) (.tmp 40) _ rfl eF rfl (by rw[fP];simp) (hR2.up _) rfl rfl (cZ.new _ #[.int .u8 p.parts[k][j].toNat] _ _ rfl (by simp[dJ,Value.oneCell'])) (by rw[fP];simp;omega) (hR2.sz _) ?_;intro s3 w3 hown hg hat;have dh:=hR2.app (c:=p.parts[k][j]) hown hg;clear hown hg hat))
       go_roundw
       case rel=>exact⟨j+1,s3,by omega,by go_num,by rw[HT.out,wQ,HN.out,←List.append_assoc,←HJ.out];simp,by rw[HT.out,wQ,HN.out,←List.append_assoc,←HJ.out];simpa using dh⟩
       case measure=>simp[intOf];omega
     ·have HE:=Lib.hid (show Lj=iM (p.parts.take (k+1)) by
       rw[HJ.out,List.take_of_length_le (by simp;omega)];exact HL.out)
      go_wp2_with fail
      go_roundw
      case rel=>exact⟨k+1,sc,by omega,by go_num,by rw[HE.out],by rw[←HE.out];exact hI⟩
      case measure=>simp[intOf];omega
  ·have hE:p.parts.take k=p.parts:=List.take_of_length_le (by omega)
   rw[hE]at hR ⊢
   clear hE
   have hT:=SY (l:=p.parts) (fun x hx=>HS.out x hx)
   have hpos:=ae8 hok
   obtain⟨L,hL⟩:∃L,L=iM p.parts:=⟨_,rfl⟩
   rw[←hL]at hR hT hpos ⊢
   have HX:=Lib.hid (ae9 hL)
   clear hL
   obtain⟨g,hga,-,-⟩:=hR.own.row 0 (by rw[fP];exact hpos)
   obtain⟨sba,sbc⟩:=sb
   dsimp only at hga
   subst hga
   have hcv:=J9 (P:=Tryz.prog) wr 61 9 5 Tryz.underlying61 Tryz.underlying5 Tryz.underlying9 g 0 sbc L (fun i hi=>by
    obtain⟨g',hg',-,hrow⟩:=hR.own.row i (by rw[fP];exact hi)
    cases hg'
    have hcell:=gX hrow 0 (by omega)
    simpa[dZ]using hcell)
   have hrc:wr.cell? ⟨w.heap.size,1,none⟩=some (.string p.aG):=(hR.b.cell (p:=⟨w.heap.size,1,none⟩) hW).trans hc1
   have apN:L.length≤260:=by omega
   have HB:=Lib.hid (hB0.trans (hR.b.mono hB0.size))
   have uT:w.heap.size<wr.heap.size:=World.block_lt_of_cell? wr _ hrc
   clear hR hT hpos hW hc1
   go_wp2_with fail
   go_ret2
   exact⟨by rw[HX.out];rfl,HB.out⟩
end Go.Proofs.YtfieenjdcpjmgaaGreatDoor
namespace Go.WW
open Go.RowKit
theorem afd(s:ByteArray)(es:List MapEntry)(keys:List ByteArray)(h:es.map (·.key)=keys.map Value.string) :
  (Ap keys s=false∧Instr.findNow .string (.string s) es 0=some none)∨
  (Ap keys s=true∧∃j e,Instr.findNow .string (.string s) es 0=some (some (0+j,e.val))∧es[j]?=some e∧e.key=.string s):=by
 have hm:∀x∈es,∃k∈keys,x.key=.string k:=fun x hx=>by
  have:x.key∈es.map (·.key):=List.mem_map.2 ⟨x,hx,rfl⟩
  rw[h,List.mem_map]at this
  obtain⟨k,hk,e⟩:=this
  exact⟨k,hk,e.symm⟩
 rcases MapKept.findNow_spec (d:=.string) (k:=.string s) trivial es 0 (fun x hx=>by obtain⟨k,_,e⟩:=hm x hx;rw[e];trivial)with⟨h1,h2⟩|⟨j,e,h1,h2,h3⟩
 ·refine .inl ⟨?_,h1⟩
  cases hk:Ap keys s with
  |false=>rfl
  |true=>
   have:=(FX keys s).1 hk
   have:Value.string s∈es.map (·.key):=by rw[h];exact List.mem_map.2 ⟨s,this,rfl⟩
   obtain⟨x,hx,e⟩:=List.mem_map.1 this
   exact absurd e (h2 x hx)
 ·refine .inr ⟨?_,j,e,h1,h2,h3⟩
  obtain⟨k,hk,e'⟩:=hm e (List.mem_of_getElem? h2)
  rw[h3]at e'
  obtain rfl:s=k:=by injection e'
  exact(FX keys s).2 hk
theorem afe{P:Program}{w:World}{mty kt et:TypeId}{d:TypeDesc}{r clock i:Nat}{es:Array MapEntry}{e:MapEntry}{v0:Value}(v:Value)(hm:P.underlying mty=some (.map kt et))(hd:P.underlying kt=some d)(hk:MapKept.IsKey d e.key)
  (hf:Instr.findNow d e.key es.toList 0=some (some (i,v0))) (hi:es[i]?=some e) (hb:w.heap[r]?=some (.map es clock)) :
  (Instr.mapUpdate mty (.map (some r)) e.key v).run P w=.ok () (w.putObj r (.map (es.modify i fun e=>{e with val:=v}) clock)):=by
 have hc:(Instr.checkKey false 10000 kt e.key).run P w=.ok () w:=MapKept.run_checkKey hd hk false 9999
 have hx:(es.modify i fun x=>{x with key:=e.key,val:=v})=es.modify i fun e=>{e with val:=v}:=by
  apply Array.ext_getElem?
  intro j
  rw[Array.getElem?_modify,Array.getElem?_modify]
  split
  ·rename_i hij;subst hij;rw[hi];rfl
  ·rfl
 simp[Instr.mapUpdate,run_underlying hm,MapKept.run_getObj_map hb,hc,MapKept.run_findKey hd hf,hi,MapKept.run_keyThatStays hk,MapKept.run_setObj_map _ hb,Result.andThen,World.putObj,hx]
def uU(w:World)(r:Nat)(keys:List ByteArray)(k:Nat):Prop:=
 ∃es clock,w.heap[r]?=some (.map es clock)∧es.toList.map (·.key)=keys.map Value.string∧∀e∈es.toList,∃n:Nat,e.val=.int .i64 n∧n≤k
theorem uU.size{w:World}{r k:Nat}{keys:List ByteArray}(h:uU w r keys k):∃es clock,w.heap[r]?=some (.map es clock)∧es.size=keys.length:=by
 obtain⟨es,clock,h1,h2,_⟩:=h
 refine⟨es,clock,h1,?_⟩
 have:=congrArg List.length h2
 simpa using this
theorem uU.lt{w:World}{r k:Nat}{keys:List ByteArray}(h:uU w r keys k):r<w.heap.size:=by
 obtain⟨es,clock,h1,_⟩:=h
 exact(Array.getElem?_eq_some_iff.1 h1).1
theorem uU.step{P:Program}{w:World}{mty kt et:TypeId}{r k:Nat}{keys:List ByteArray}(h:uU w r keys k)(hm:P.underlying mty=some (.map kt et))(hd:P.underlying kt=some .string)
  (hz:∀w,(zeroValue et).run P w=.ok (.int .i64 0) w) (s:ByteArray) :
  ∃(n:Nat) (w':World),n≤k∧(Instr.lookup mty (.map (some r)) (.string s) false).run P w=.ok (.int .i64 n) w∧
   (Instr.mapUpdate mty (.map (some r)) (.string s) (.int .i64 ((n:Int)+1))).run P w=.ok () w'∧uU w' r (addKey keys s) (k+1)∧w.grownBy w' (some r):=by
 obtain⟨es,clock,h1,h2,h3⟩:=h
 rcases afd s es.toList keys h2 with⟨hk,hf⟩|⟨hk,j,e,hf,he,hes⟩
 ·refine⟨0,_,Nat.zero_le _,J6 false hm hd (k:=.string s) trivial hf (hz w) h1,JV _ hm hd (k:=.string s) trivial hf h1,⟨_,_,World.putObj_heap_same (Array.getElem?_eq_some_iff.1 h1).1,?_,?_⟩,grownBy_putObj' _ _ _⟩
  ·simp[addKey,hk,h2]
  ·intro x hx
   rw[Array.toList_push,List.mem_append]at hx
   rcases hx with hx|hx
   ·obtain⟨n,h4,h5⟩:=h3 x hx;exact⟨n,h4,by omega⟩
   ·simp at hx;subst hx;exact⟨1,by simp,by omega⟩
 ·have hj:es[j]?=some e:=by simpa using he
  obtain⟨n,hn,hnk⟩:=h3 e (List.mem_of_getElem? he)
  rw[Nat.zero_add]at hf
  rw[←hes]
  rw[←hes]at hf
  have hik:MapKept.IsKey .string e.key:=by rw[hes];trivial
  have hg:=J6 false hm hd (k:=e.key) hik hf (hz w) h1
  refine⟨n,_,hnk,by rw[hg];simp[Ar,hn],afe _ hm hd hik hf hj h1,⟨_,_,World.putObj_heap_same (Array.getElem?_eq_some_iff.1 h1).1,?_,?_⟩,grownBy_putObj' _ _ _⟩
  ·rw[addKey,hk,if_pos rfl,←h2]
   apply List.ext_getElem?
   intro i
   simp only[List.getElem?_map,Array.getElem?_toList,Array.getElem?_modify]
   split
   ·cases es[i]?<;>rfl
   ·rfl
  ·intro x hx
   obtain⟨i,hi,rfl⟩:=List.mem_iff_getElem.1 hx
   simp only[Array.length_toList,Array.size_modify]at hi
   rw[Array.getElem_toList,Array.getElem_modify]
   split
   ·exact⟨n+1,by simp,by omega⟩
   ·obtain⟨m,h4,h5⟩:=h3 es[i] (by simp);exact⟨m,h4,by omega⟩
end Go.WW
namespace Go.WW
theorem aff(l:List az)(k:Nat)(h:k<l.length):keysOf ((l.take (k+1)).map textOf)=addKey (keysOf ((l.take k).map textOf)) (textOf l[k]):=by
 rw[List.take_succ_eq_append_getElem h,List.map_append,List.map_cons,List.map_nil,ad7]
theorem Ti{P:Program}{w:World}{r clock:Nat}{es:Array MapEntry}{t k e:TypeId}(ht:P.underlying t=some (.map k e))(ty:TypeId)(hb:w.heap[r]?=some (.map es clock)):(Builtin.len_ #[t] ty #[.map (some r)]).run P w=.ok (.int .i64 es.size) w:=by
 simp[Builtin.len_,run_underlying ht,MapKept.run_getObj_map hb,Result.andThen,goInt]
end Go.WW
namespace Go.Proofs.YtfieenjdcpjmgaaGreatDoor
open Go.RowKit Go.WW
theorem afg(w:World):(zeroValue 3).run Tryz.prog w=.ok (.int .i64 0) w:=by kernel_rfl
theorem afh(a:Option Addr)(cap:Nat)(w:World):Calls Tryz.prog 199 #[.slice a 0 cap] w fun e w'=>e=.returned (.bool true)∧Below w.heap.size w w':=by
 have hmm:=@run_makeMap Tryz.prog
 have hm1:=fun ty=>Ti (P:=Tryz.prog) Tryz.underlying288 ty (World.alloc_heap_new w (.map #[] 0))
 go_enter Tryz.func199,Tryz.ntmps199
 go_wp2_with fail
 refine wp_loop_rounds 1 ?_
 rw[rounds_succ]
 go_wp2_with fail
 go_ret
 exact⟨rfl,(Below.refl _ _).alloc (Nat.le_refl _) _⟩
theorem Tj(a:Option Addr)(cap:Nat)(l:List az)(w:World)(hl:fJ w a l)(hok:l.all bG=true):Calls Tryz.prog 199 #[.slice a l.length cap] w fun e w'=>e=.returned (.bool (uQ l))∧Below w.heap.size w w':=by
 have hn:l.length≤4294967000:=hl.1
 rcases aX.addr hl with h0|⟨b,o,rfl,hb⟩
 ·obtain rfl:l=[]:=List.eq_nil_of_length_eq_zero h0
  exact afh a cap w
 have hmm:=@run_makeMap Tryz.prog
 have HO:=Lib.hid hok
 clear hok
 go_enter Tryz.func199,Tryz.ntmps199
 go_wp2_with fail
 go_loopw [11] (fun i wr=>∃k:Nat,k≤l.length∧i=.int .i64 k∧Below w.heap.size w wr∧uU wr w.heap.size (keysOf ((l.take k).map textOf)) k) (fun i _=>l.length-(intOf i).toNat)
 case atStart=>exact⟨0,Nat.zero_le _,rfl,(Below.refl _ _).alloc (Nat.le_refl _) _,#[],0,World.alloc_heap_new w (.map #[] 0),rfl,by simp⟩
 case round=>
  clear hmm
  obtain⟨k,hk,rfl,hbr,hC⟩:=hrel
  by_cases hlt:k<l.length
  ·obtain⟨t,hc,hp⟩:=hl.at k hlt
   obtain⟨hcc,aT,hrr⟩:=bg hbr
   go_wp2_with fail
   have hb1:=aj hbr (.cells (ah t l[k]) 40)
   refine(Td _ _ _ (hp.later hb1) (List.all_eq_true.1 HO.out _ (List.getElem_mem hlt))).mono ?_
   rintro e w1 ⟨rfl,hb2⟩
   have hb3:=ag hb1 hb2
   have hr:=hC.lt
   have Tm:uU w1 w.heap.size (keysOf ((l.take k).map textOf)) k:=by
    obtain⟨es,clock,h1,h2⟩:=hC
    exact⟨es,clock,(hb2.block _ (by simp;omega)).trans ((Below.heap_alloc wr _ _ hr).trans h1),h2⟩
   obtain⟨n,w2,hnk,hlk,hup,hC2,hg⟩:=Tm.step (P:=Tryz.prog) Tryz.underlying288 Tryz.underlying9 afg (textOf l[k])
   rw[←aff l k hlt]at hC2
   have hb4:Below w.heap.size w w2:=hb3.grown hg hb3.size (fun g e=>by cases e;omega)
   clear hcc aT hrr Tm hC hbr
   go_wp2_with fail
   clear hlk hup
   go_roundw
   case rel=>exact⟨k+1,by omega,by go_num,hb4,hC2⟩
   case measure=>simp[intOf];omega
  ·have hE:l.take k=l:=List.take_of_length_le (by omega)
   rw[hE]at hC
   obtain⟨es,clock,hm,hs⟩:=hC.size
   have hkl:=ad9 (l.map textOf)
   have HN:=Lib.hid (show uQ l=decide ((es.size:Int)=(l.length:Int)) by rw[uQ,hs])
   have hsl:es.size≤4294967000:=by rw[hs];simp at hkl;omega
   have hln:=fun ty=>Ti (P:=Tryz.prog) Tryz.underlying288 ty hm
   clear hE hkl hs hm
   go_wp2_with fail
   go_ret
   exact⟨by rw[HN.out];first|rfl|(congr 2),hbr⟩
end Go.Proofs.YtfieenjdcpjmgaaGreatDoor
