/- A part of the proof. -/
import Derived.Test.YtibhckkjciflaaaGreatDoorA13
import Derived.Test.YtibhckkjciflaaaGreatDoorProg
set_option maxRecDepth 100000
set_option maxHeartbeats 2000000
namespace Go.WW
open Go.RowKit
def lim:Nat:=4294967000
section
variable (w:World)
def cu(k:Nat)(a:Option Addr)(n:Nat)(R:Nat→Array Value→Prop):Prop:=
 n≤lim∧∀i,i<n→∃b o cs,a=some ⟨b,o,none⟩∧row? w b (o+i*k) k=some cs∧R i cs
def eu(a:Option Addr)(n:Nat)(R:Nat→Value→Prop):Prop:=
 n≤lim∧∀i,i<n→∃b o v,a=some ⟨b,o,none⟩∧w.cell? ⟨b,o+i,none⟩=some v∧R i v
def lK(a:Option Addr)(l:List ByteArray):Prop:=eu w a l.length fun i v=>∃s,l[i]?=some s∧v=.string s∧s.size≤lim
def BytesAt(a:Option Addr)(l:List UInt8):Prop:=eu w a l.length fun i v=>∃c,l[i]?=some c∧v=.int .u8 c.toNat
def oI(a:Option Addr)(l:List Int):Prop:=eu w a l.length fun i v=>∃c,l[i]?=some c∧v=.int .i64 c
def oZ(a:Option Addr)(l:List Bool):Prop:=eu w a l.length fun i v=>∃c,l[i]?=some c∧v=.bool c
def gu(s:Sl)(p:aG):Prop:=lK w s.a p.parts∧p.aQ.size≤lim
def fH(a:Option Addr)(l:List aG):Prop:=cu w 2 a l.length fun i cs=>∃p s,l[i]?=some p∧cs=aJ s p∧gu w s p
def iR(s:Sl)(k:Key):Prop:=BytesAt w s.a k.bytes
def jw(a:Option Addr)(l:List Key):Prop:=cu w 3 a l.length fun i cs=>∃k s,l[i]?=some k∧cs=bG s k∧iR w s k
def ig(s:Sl)(k:aW):Prop:=jw w s.a k.keys∧k.bF.size≤lim
def kV(a:Option Addr)(l:List aW):Prop:=cu w 5 a l.length fun i cs=>∃k s,l[i]?=some k∧cs=aV s k∧ig w s k
def dH(a:Option Addr)(l:List (List UInt8)):Prop:=eu w a l.length fun i v=>∃x,∃s:Sl,l[i]?=some x∧v=.slice s.a x.length s.cap∧BytesAt w s.a x
structure iT(r:aC)(d:Entry):Prop where
 name:gu w r.parts d.name
 aliases:fH w r.aliases.a d.aliases
 keys:kV w r.keys.a d.keys
 targets:fH w r.targets.a d.targets
 aP:fH w r.aP.a d.aP
 history:dH w r.history.a d.history
 dn:d.dn.size≤lim
 attrs:0≤d.attrs∧d.attrs≤4294967295
end
section
variable {w w':World} (h:Below w.heap.size w w')
include h
theorem cu.later{k:Nat}{a:Option Addr}{n:Nat}{R R':Nat→Array Value→Prop}(hR:∀i cs,R i cs→R' i cs)(x:cu w k a n R):cu w' k a n R':=by
 refine⟨x.1,fun i hi=>?_⟩
 obtain⟨b,o,cs,ha,hr,hR1⟩:=x.2 i hi
 exact⟨b,o,cs,ha,by rw[tJ (h.block b (kT hr))];exact hr,hR i cs hR1⟩
theorem eu.later{a:Option Addr}{n:Nat}{R R':Nat→Value→Prop}(hR:∀i cs,R i cs→R' i cs)(x:eu w a n R):eu w' a n R':=by
 refine⟨x.1,fun i hi=>?_⟩
 obtain⟨b,o,cs,ha,hr,hR1⟩:=x.2 i hi
 exact⟨b,o,cs,ha,by rw[h.cell (World.block_lt_of_cell? w _ hr)];exact hr,hR i cs hR1⟩
theorem lK.later{a:Option Addr}{l:List ByteArray}(x:lK w a l):lK w' a l:=eu.later h (fun _ _ y=>y) x
theorem BytesAt.later{a:Option Addr}{l:List UInt8}(x:BytesAt w a l):BytesAt w' a l:=eu.later h (fun _ _ y=>y) x
theorem oI.later{a:Option Addr}{l:List Int}(x:oI w a l):oI w' a l:=eu.later h (fun _ _ y=>y) x
theorem oZ.later{a:Option Addr}{l:List Bool}(x:oZ w a l):oZ w' a l:=eu.later h (fun _ _ y=>y) x
theorem gu.later{s:Sl}{p:aG}(x:gu w s p):gu w' s p:=⟨x.1.later h,x.2⟩
theorem fH.later{a:Option Addr}{l:List aG}(x:fH w a l):fH w' a l:=cu.later h (fun _ _ ⟨p,s,y1,y2,y3⟩=>⟨p,s,y1,y2,y3.later h⟩) x
theorem iR.later{s:Sl}{k:Key}(x:iR w s k):iR w' s k:=BytesAt.later h x
theorem jw.later{a:Option Addr}{l:List Key}(x:jw w a l):jw w' a l:=cu.later h (fun _ _ ⟨p,s,y1,y2,y3⟩=>⟨p,s,y1,y2,y3.later h⟩) x
theorem ig.later{s:Sl}{k:aW}(x:ig w s k):ig w' s k:=⟨x.1.later h,x.2⟩
theorem kV.later{a:Option Addr}{l:List aW}(x:kV w a l):kV w' a l:=cu.later h (fun _ _ ⟨p,s,y1,y2,y3⟩=>⟨p,s,y1,y2,y3.later h⟩) x
theorem dH.later{a:Option Addr}{l:List (List UInt8)}(x:dH w a l):dH w' a l:=eu.later h (fun _ _ ⟨p,s,y1,y2,y3⟩=>⟨p,s,y1,y2,y3.later h⟩) x
theorem iT.later{r:aC}{d:Entry}(x:iT w r d):iT w' r d:=
 ⟨x.name.later h,x.aliases.later h,x.keys.later h,x.targets.later h,x.aP.later h,x.history.later h,x.dn,x.attrs⟩
end
section
variable {w:World} {a:Option Addr}
theorem lK.get{l:List ByteArray}(x:lK w a l)(i:Nat)(h:i<l.length):∃b o,a=some ⟨b,o,none⟩∧w.cell? ⟨b,o+i,none⟩=some (.string l[i])∧l[i].size≤lim:=by
 obtain⟨b,o,v,h1,h2,s,h3,rfl,h4⟩:=x.2 i h
 rw[List.getElem?_eq_getElem h]at h3;cases h3
 exact⟨b,o,h1,h2,h4⟩
theorem BytesAt.get{l:List UInt8}(x:BytesAt w a l)(i:Nat)(h:i<l.length):∃b o,a=some ⟨b,o,none⟩∧w.cell? ⟨b,o+i,none⟩=some (.int .u8 l[i].toNat):=by
 obtain⟨b,o,v,h1,h2,s,h3,rfl⟩:=x.2 i h
 rw[List.getElem?_eq_getElem h]at h3;cases h3
 exact⟨b,o,h1,h2⟩
theorem oI.get{l:List Int}(x:oI w a l)(i:Nat)(h:i<l.length):∃b o,a=some ⟨b,o,none⟩∧w.cell? ⟨b,o+i,none⟩=some (.int .i64 l[i]):=by
 obtain⟨b,o,v,h1,h2,s,h3,rfl⟩:=x.2 i h
 rw[List.getElem?_eq_getElem h]at h3;cases h3
 exact⟨b,o,h1,h2⟩
theorem oZ.get{l:List Bool}(x:oZ w a l)(i:Nat)(h:i<l.length):∃b o,a=some ⟨b,o,none⟩∧w.cell? ⟨b,o+i,none⟩=some (.bool l[i]):=by
 obtain⟨b,o,v,h1,h2,s,h3,rfl⟩:=x.2 i h
 rw[List.getElem?_eq_getElem h]at h3;cases h3
 exact⟨b,o,h1,h2⟩
theorem fH.get{l:List aG}(x:fH w a l)(i:Nat)(h:i<l.length):∃b o s,a=some ⟨b,o,none⟩∧row? w b (o+i*2) 2=some (aJ s l[i])∧gu w s l[i]:=by
 obtain⟨b,o,v,h1,h2,p,s,h3,rfl,h4⟩:=x.2 i h
 rw[List.getElem?_eq_getElem h]at h3;cases h3
 exact⟨b,o,s,h1,h2,h4⟩
theorem jw.get{l:List Key}(x:jw w a l)(i:Nat)(h:i<l.length):∃b o s,a=some ⟨b,o,none⟩∧row? w b (o+i*3) 3=some (bG s l[i])∧iR w s l[i]:=by
 obtain⟨b,o,v,h1,h2,p,s,h3,rfl,h4⟩:=x.2 i h
 rw[List.getElem?_eq_getElem h]at h3;cases h3
 exact⟨b,o,s,h1,h2,h4⟩
theorem kV.get{l:List aW}(x:kV w a l)(i:Nat)(h:i<l.length):∃b o s,a=some ⟨b,o,none⟩∧row? w b (o+i*5) 5=some (aV s l[i])∧ig w s l[i]:=by
 obtain⟨b,o,v,h1,h2,p,s,h3,rfl,h4⟩:=x.2 i h
 rw[List.getElem?_eq_getElem h]at h3;cases h3
 exact⟨b,o,s,h1,h2,h4⟩
theorem dH.get{l:List (List UInt8)}(x:dH w a l)(i:Nat)(h:i<l.length):∃b o,∃s:Sl,a=some ⟨b,o,none⟩∧w.cell? ⟨b,o+i,none⟩=some (.slice s.a l[i].length s.cap)∧BytesAt w s.a l[i]:=by
 obtain⟨b,o,v,h1,h2,p,s,h3,rfl,h4⟩:=x.2 i h
 rw[List.getElem?_eq_getElem h]at h3;cases h3
 exact⟨b,o,s,h1,h2,h4⟩
end
theorem cu.addr{w:World}{k n:Nat}{a:Option Addr}{R:Nat→Array Value→Prop}(x:cu w k a n R):n=0∨∃b o,a=some ⟨b,o,none⟩∧b<w.heap.size:=by
 rcases Nat.eq_zero_or_pos n with h|h
 ·exact .inl h
 ·obtain⟨b,o,cs,ha,hr,_⟩:=x.2 0 h
  exact .inr ⟨b,o,ha,kT hr⟩
theorem eu.addr{w:World}{n:Nat}{a:Option Addr}{R:Nat→Value→Prop}(x:eu w a n R):n=0∨∃b o,a=some ⟨b,o,none⟩∧b<w.heap.size:=by
 rcases Nat.eq_zero_or_pos n with h|h
 ·exact .inl h
 ·obtain⟨b,o,v,ha,hr,_⟩:=x.2 0 h
  exact .inr ⟨b,o,ha,World.block_lt_of_cell? w _ hr⟩
theorem lK.at{w:World}{b o:Nat}{l:List ByteArray}(x:lK w (some ⟨b,o,none⟩) l)(i:Nat)(h:i<l.length):w.cell? ⟨b,o+i,none⟩=some (.string l[i])∧l[i].size≤lim:=by
 obtain⟨b',o',ha,hc,hs⟩:=x.get i h;cases ha;exact⟨hc,hs⟩
theorem BytesAt.at{w:World}{b o:Nat}{l:List UInt8}(x:BytesAt w (some ⟨b,o,none⟩) l)(i:Nat)(h:i<l.length):w.cell? ⟨b,o+i,none⟩=some (.int .u8 l[i].toNat):=by
 obtain⟨b',o',ha,hc⟩:=x.get i h;cases ha;exact hc
theorem oI.at{w:World}{b o:Nat}{l:List Int}(x:oI w (some ⟨b,o,none⟩) l)(i:Nat)(h:i<l.length):w.cell? ⟨b,o+i,none⟩=some (.int .i64 l[i]):=by
 obtain⟨b',o',ha,hc⟩:=x.get i h;cases ha;exact hc
theorem oZ.at{w:World}{b o:Nat}{l:List Bool}(x:oZ w (some ⟨b,o,none⟩) l)(i:Nat)(h:i<l.length):w.cell? ⟨b,o+i,none⟩=some (.bool l[i]):=by
 obtain⟨b',o',ha,hc⟩:=x.get i h;cases ha;exact hc
theorem fH.at{w:World}{b o:Nat}{l:List aG}(x:fH w (some ⟨b,o,none⟩) l)(i:Nat)(h:i<l.length):∃s,row? w b (o+i*2) 2=some (aJ s l[i])∧gu w s l[i]:=by
 obtain⟨b',o',s,ha,hc⟩:=x.get i h;cases ha;exact⟨s,hc⟩
theorem jw.at{w:World}{b o:Nat}{l:List Key}(x:jw w (some ⟨b,o,none⟩) l)(i:Nat)(h:i<l.length):∃s,row? w b (o+i*3) 3=some (bG s l[i])∧iR w s l[i]:=by
 obtain⟨b',o',s,ha,hc⟩:=x.get i h;cases ha;exact⟨s,hc⟩
theorem kV.at{w:World}{b o:Nat}{l:List aW}(x:kV w (some ⟨b,o,none⟩) l)(i:Nat)(h:i<l.length):∃s,row? w b (o+i*5) 5=some (aV s l[i])∧ig w s l[i]:=by
 obtain⟨b',o',s,ha,hc⟩:=x.get i h;cases ha;exact⟨s,hc⟩
theorem dH.at{w:World}{b o:Nat}{l:List (List UInt8)}(x:dH w (some ⟨b,o,none⟩) l)(i:Nat)(h:i<l.length):∃s:Sl,w.cell? ⟨b,o+i,none⟩=some (.slice s.a l[i].length s.cap)∧BytesAt w s.a l[i]:=by
 obtain⟨b',o',s,ha,hc⟩:=x.get i h;cases ha;exact⟨s,hc⟩
end Go.WW
namespace Go.Proofs.YtibhckkjciflaaaGreatDoor
open Go.RowKit Go.WW
def tX(T:TypeId)(parts:Array (Nat×Value)):Sem Next:=do pure (.value (←Instr.build T parts))
theorem Y7(w:World)(b o:Nat):(kG 25 (.pointer (some ⟨b,o,none⟩))).run Tryz.prog w=qP Tryz.prog 25 w b o (row? w b o 2):=vO Tryz.underlying25 rfl (by kernel_rfl) w b o
theorem Y8(ρ:Operand→Value)(dst:Option Tmp)(x:Operand)(ty:TypeId)(pos:String)(after:Array Edge)(guard:Option (Nat×Bool)):execOp ρ {dst,op:=.load 25 x,type:=ty,pos,after,guard}=kG 25 (ρ x):=rfl
attribute [go_sem] Y7
attribute [go_sem ↓] Y8
theorem Y9(w:World)(b o:Nat):(kG 151 (.pointer (some ⟨b,o,none⟩))).run Tryz.prog w=qP Tryz.prog 151 w b o (row? w b o 3):=vO Tryz.underlying151 rfl (by kernel_rfl) w b o
theorem Za(ρ:Operand→Value)(dst:Option Tmp)(x:Operand)(ty:TypeId)(pos:String)(after:Array Edge)(guard:Option (Nat×Bool)):execOp ρ {dst,op:=.load 151 x,type:=ty,pos,after,guard}=kG 151 (ρ x):=rfl
attribute [go_sem] Y9
attribute [go_sem ↓] Za
theorem Zb(w:World)(b o:Nat):(kG 49 (.pointer (some ⟨b,o,none⟩))).run Tryz.prog w=qP Tryz.prog 49 w b o (row? w b o 5):=vO Tryz.underlying49 rfl (by kernel_rfl) w b o
theorem Zc(ρ:Operand→Value)(dst:Option Tmp)(x:Operand)(ty:TypeId)(pos:String)(after:Array Edge)(guard:Option (Nat×Bool)):execOp ρ {dst,op:=.load 49 x,type:=ty,pos,after,guard}=kG 49 (ρ x):=rfl
attribute [go_sem] Zb
attribute [go_sem ↓] Zc
theorem Zd(w:World)(b o:Nat):(kG 32 (.pointer (some ⟨b,o,none⟩))).run Tryz.prog w=qP Tryz.prog 32 w b o (row? w b o 17):=vO Tryz.underlying32 rfl (by kernel_rfl) w b o
theorem Ze(ρ:Operand→Value)(dst:Option Tmp)(x:Operand)(ty:TypeId)(pos:String)(after:Array Edge)(guard:Option (Nat×Bool)):execOp ρ {dst,op:=.load 32 x,type:=ty,pos,after,guard}=kG 32 (ρ x):=rfl
attribute [go_sem] Zd
attribute [go_sem ↓] Ze
theorem Zf(w:World)(b o:Nat):(kG 34 (.pointer (some ⟨b,o,none⟩))).run Tryz.prog w=qP Tryz.prog 34 w b o (row? w b o 10):=vO Tryz.underlying34 rfl (by kernel_rfl) w b o
theorem Zg(ρ:Operand→Value)(dst:Option Tmp)(x:Operand)(ty:TypeId)(pos:String)(after:Array Edge)(guard:Option (Nat×Bool)):execOp ρ {dst,op:=.load 34 x,type:=ty,pos,after,guard}=kG 34 (ρ x):=rfl
attribute [go_sem] Zf
attribute [go_sem ↓] Zg
theorem Zh(w:World)(b o:Nat)(cs:Array Value)(hn:cs.size=2)(h1:dG cs=true):(kH 25 (.pointer (some ⟨b,o,none⟩)) (.agg cs)).run Tryz.prog w=qQ Tryz.prog 25 w b o cs (aS w b o 2):=vP (by kernel_rfl) w b o cs hn h1
theorem Zi(ρ:Operand→Value)(dst:Option Tmp)(x y:Operand)(ty:TypeId)(pos:String)(after:Array Edge)(guard:Option (Nat×Bool)):execOp ρ {dst,op:=.store 25 x y,type:=ty,pos,after,guard}=kH 25 (ρ x) (ρ y):=rfl
attribute [go_sem] Zh
attribute [go_sem ↓] Zi
theorem Zj(w:World)(b o:Nat)(cs:Array Value)(hn:cs.size=3)(h1:dG cs=true):(kH 151 (.pointer (some ⟨b,o,none⟩)) (.agg cs)).run Tryz.prog w=qQ Tryz.prog 151 w b o cs (aS w b o 3):=vP (by kernel_rfl) w b o cs hn h1
theorem Zk(ρ:Operand→Value)(dst:Option Tmp)(x y:Operand)(ty:TypeId)(pos:String)(after:Array Edge)(guard:Option (Nat×Bool)):execOp ρ {dst,op:=.store 151 x y,type:=ty,pos,after,guard}=kH 151 (ρ x) (ρ y):=rfl
attribute [go_sem] Zj
attribute [go_sem ↓] Zk
theorem Zl(w:World)(b o:Nat)(cs:Array Value)(hn:cs.size=5)(h1:dG cs=true):(kH 49 (.pointer (some ⟨b,o,none⟩)) (.agg cs)).run Tryz.prog w=qQ Tryz.prog 49 w b o cs (aS w b o 5):=vP (by kernel_rfl) w b o cs hn h1
theorem Zm(ρ:Operand→Value)(dst:Option Tmp)(x y:Operand)(ty:TypeId)(pos:String)(after:Array Edge)(guard:Option (Nat×Bool)):execOp ρ {dst,op:=.store 49 x y,type:=ty,pos,after,guard}=kH 49 (ρ x) (ρ y):=rfl
attribute [go_sem] Zl
attribute [go_sem ↓] Zm
theorem Zn(w:World)(b o:Nat)(cs:Array Value)(hn:cs.size=17)(h1:dG cs=true):(kH 32 (.pointer (some ⟨b,o,none⟩)) (.agg cs)).run Tryz.prog w=qQ Tryz.prog 32 w b o cs (aS w b o 17):=vP (by kernel_rfl) w b o cs hn h1
theorem Zo(ρ:Operand→Value)(dst:Option Tmp)(x y:Operand)(ty:TypeId)(pos:String)(after:Array Edge)(guard:Option (Nat×Bool)):execOp ρ {dst,op:=.store 32 x y,type:=ty,pos,after,guard}=kH 32 (ρ x) (ρ y):=rfl
attribute [go_sem] Zn
attribute [go_sem ↓] Zo
theorem Zp(w:World)(b o:Nat)(cs:Array Value)(hn:cs.size=10)(h1:dG cs=true):(kH 34 (.pointer (some ⟨b,o,none⟩)) (.agg cs)).run Tryz.prog w=qQ Tryz.prog 34 w b o cs (aS w b o 10):=vP (by kernel_rfl) w b o cs hn h1
theorem Zq(ρ:Operand→Value)(dst:Option Tmp)(x y:Operand)(ty:TypeId)(pos:String)(after:Array Edge)(guard:Option (Nat×Bool)):execOp ρ {dst,op:=.store 34 x y,type:=ty,pos,after,guard}=kH 34 (ρ x) (ρ y):=rfl
attribute [go_sem] Zp
attribute [go_sem ↓] Zq
end Go.Proofs.YtibhckkjciflaaaGreatDoor
namespace Go.WW
def ag(v lo hi:Int):Bool:=decide (lo≤v)&&decide (v≤hi)
theorem Aj{v lo hi:Int}:ag v lo hi=true↔lo≤v∧v≤hi:=by simp[ag]
def Zr(t:Int):Bool:=ag t 0 1099511627776
end Go.WW
namespace Go.Proofs.YtibhckkjciflaaaGreatDoor
open Go.RowKit Go.WW
theorem tY(v lo hi:Int)(w:World):Calls Tryz.prog 76 #[.int .i64 v,.int .i64 lo,.int .i64 hi] w fun e w'=>e=.returned (.bool (ag v lo hi))∧w=w':=by
 go_enter Tryz.func76,Tryz.ntmps76
 go_wp2
 all_goals go_ret
 all_goals exact⟨by first|(simp[ag, *];done)|(simp[ag];omega),rfl⟩
theorem tZ(v lo hi:Int)(w:World):Calls Tryz.prog 87 #[.int .i64 v,.int .i64 lo,.int .i64 hi] w fun e w'=>e=.returned (.bool (ag v lo hi))∧w=w':=by
 go_enter Tryz.func87,Tryz.ntmps87
 go_wp2
 all_goals go_ret
 all_goals exact⟨by first|(simp[ag, *];done)|(simp[ag];omega),rfl⟩
theorem OM(v lo hi:Int)(w:World):Calls Tryz.prog 95 #[.int .i64 v,.int .i64 lo,.int .i64 hi] w fun e w'=>e=.returned (.bool (ag v lo hi))∧w=w':=by
 go_enter Tryz.func95,Tryz.ntmps95
 go_wp2
 all_goals go_ret
 all_goals exact⟨by first|(simp[ag, *];done)|(simp[ag];omega),rfl⟩
theorem o5(v lo hi:Int)(w:World):Calls Tryz.prog 91 #[.int .i64 v,.int .i64 lo,.int .i64 hi] w fun e w'=>e=.returned (.bool (ag v lo hi))∧w=w':=by
 go_enter Tryz.func91,Tryz.ntmps91
 go_wp2
 all_goals go_ret
 all_goals exact⟨by first|(simp[ag, *];done)|(simp[ag];omega),rfl⟩
end Go.Proofs.YtibhckkjciflaaaGreatDoor
namespace Go.WW
def kW(c:UInt8):Bool:=decide (33≤(c.toNat:Int))&&decide ((c.toNat:Int)≤126)
def visible(s:ByteArray):Bool:=s.data.toList.all kW
def sized(s:ByteArray):Bool:=decide (1≤(s.size:Int))&&decide ((s.size:Int)≤32)
def eQ(s:ByteArray):Bool:=visible s&&sized s
theorem D7(s:ByteArray)(k:Nat)(h:k<s.size):s.data.toList[k]?=some s[k]:=by
 have h':k<s.data.size:=h
 rw[Array.getElem?_toList,Array.getElem?_eq_getElem h'];rfl
theorem lL{p:UInt8→Bool}(s:ByteArray)(k:Nat)(h:k<s.size)(h1:(s.data.toList.take k).all p=true)(h2:p s[k]=true):(s.data.toList.take (k+1)).all p=true:=by
 rw[List.take_succ_eq_append_getElem (by simpa using h),List.all_append,h1]
 have:s.data.toList[k]=s[k]:=rfl
 simp[this,h2]
theorem vT{p:UInt8→Bool}(s:ByteArray)(k:Nat)(h:k<s.size)(h2:p s[k]=false):s.data.toList.all p=false:=by
 rw[List.all_eq_false]
 exact⟨s[k],List.mem_of_getElem? (D7 s k h),by simp[h2]⟩
theorem vU{p:UInt8→Bool}(s:ByteArray)(k:Nat)(h:s.size≤k)(h1:(s.data.toList.take k).all p=true):s.data.toList.all p=true:=by
 rwa[List.take_of_length_le (by simpa using h)]at h1
end Go.WW
namespace Go.Proofs.YtibhckkjciflaaaGreatDoor
open Go.RowKit Go.WW
theorem IA(s:ByteArray)(w:World)(hs:s.size≤maxLen):Calls Tryz.prog 92 #[.string s] w fun e w'=>e=.returned (.bool (visible s))∧w=w':=by
 unfold maxLen at hs
 go_enter Tryz.func92,Tryz.ntmps92
 go_wp2
 go_loop [3] (fun i=>∃k:Nat,k≤s.size∧i=.int .i64 k∧Hid ((s.data.toList.take k).all kW=true)) (fun i=>s.size-(intOf i).toNat)
 case atStart=>exact⟨0,Nat.zero_le _,rfl,by simp[Hid]⟩
 case round=>
  obtain⟨k,hk,rfl,hall⟩:=hrel
  by_cases hlt:k<s.size
  ·go_wp2
   all_goals first
    |(go_ret;exact⟨by rw[show visible s=false from vT s k hlt (by simp[kW];omega)];rfl,rfl⟩)
    |(go_round
      case rel=>exact⟨k+1,by omega,by go_num,lL s k hlt hall.out (by simp[kW];omega)⟩
      case measure=>simp[intOf];omega)
  ·go_wp2
   go_ret
   exact⟨by rw[show visible s=true from vU s k (by omega) hall.out];rfl,rfl⟩
theorem IB(s:ByteArray)(w:World)(hs:s.size≤maxLen):Calls Tryz.prog 140 #[.string s] w fun e w'=>e=.returned (.bool (sized s))∧w=w':=by
 unfold maxLen at hs
 go_enter Tryz.func140,Tryz.ntmps140
 go_wp2
 all_goals go_ret
 all_goals exact⟨by first|(simp[sized, *];done)|(simp[sized];omega),rfl⟩
theorem OO(s:ByteArray)(w:World)(hs:s.size≤maxLen):Calls Tryz.prog 85 #[.string s] w fun e w'=>e=.returned (.bool (eQ s))∧w=w':=by
 have hs':=hs
 unfold maxLen at hs
 go_enter Tryz.func85,Tryz.ntmps85
 go_wp2
 go_loop [6] (fun i=>∃k:Nat,k≤s.size∧i=.int .i64 k∧Hid ((s.data.toList.take k).all kW=true)) (fun i=>s.size-(intOf i).toNat)
 case atStart=>exact⟨0,Nat.zero_le _,rfl,by simp[Hid]⟩
 case round=>
  obtain⟨k,hk,rfl,hall⟩:=hrel
  by_cases hlt:k<s.size
  ·go_wp2
   all_goals first
    |(go_ret;exact⟨by rw[show eQ s=false from by rw[eQ,show visible s=false from vT s k hlt (by simp[kW];omega)];rfl];rfl,rfl⟩)
    |(go_round
      case rel=>exact⟨k+1,by omega,by go_num,lL s k hlt hall.out (by simp[kW];omega)⟩
      case measure=>simp[intOf];omega)
  ·go_wp2_with (go_at_call 140;refine(IB _ _ hs').mono ?_;rintro e w' ⟨rfl,rfl⟩)
   go_ret
   exact⟨by rw[show eQ s=sized s from by rw[eQ,show visible s=true from vU s k (by omega) hall.out];rfl];rfl,rfl⟩
theorem Zt(s:ByteArray)(w:World)(hs:s.size≤maxLen):Calls Tryz.prog 79 #[.string s] w fun e w'=>e=.returned (.bool (visible s&&decide ((s.size:Int)≤32)))∧w=w':=by
 unfold maxLen at hs
 go_enter Tryz.func79,Tryz.ntmps79
 go_wp2
 go_loop [6] (fun i=>∃k:Nat,k≤s.size∧i=.int .i64 k∧Hid ((s.data.toList.take k).all kW=true)) (fun i=>s.size-(intOf i).toNat)
 case atStart=>exact⟨0,Nat.zero_le _,rfl,by simp[Hid]⟩
 case round=>
  obtain⟨k,hk,rfl,hall⟩:=hrel
  by_cases hlt:k<s.size
  ·go_wp2
   all_goals first
    |(go_ret;exact⟨by rw[show visible s=false from vT s k hlt (by simp[kW];omega)];rfl,rfl⟩)
    |(go_round
      case rel=>exact⟨k+1,by omega,by go_num,lL s k hlt hall.out (by simp[kW];omega)⟩
      case measure=>simp[intOf];omega)
  ·go_wp2
   all_goals go_ret
   all_goals exact⟨by rw[show visible s=true from vU s k (by omega) hall.out];first|rfl|(simp;done)|(simp;omega),rfl⟩
end Go.Proofs.YtibhckkjciflaaaGreatDoor
namespace Go.WW
def nO(c:UInt8):Bool:=(c.toNat:Int) == 46 || (c.toNat:Int) == 45 || (decide (65≤(c.toNat:Int))&&decide ((c.toNat:Int)≤90)) || (decide (48≤(c.toNat:Int))&&decide ((c.toNat:Int)≤57))
def fJ(c:UInt8):Bool:=(c.toNat:Int) == 46
def kX(s:ByteArray)(i:Nat):Bool:=
 match s.data.toList[i]? with
 |none=>true
 |some c=>nO c&&!(fJ c&&(i == 0 || i+1 == s.size || (s.data.toList[i-1]?).any fJ))
def iL(s:ByteArray):Bool:=(List.range s.size).all (kX s)&&sized s
def aY(p:aG):Bool:=p.parts.all eQ&&decide (1≤(p.parts.length:Int))&&decide ((p.parts.length:Int)≤4)&&iL p.aQ
def bH(p q:aG):Bool:=decide (p.aQ=q.aQ)&&decide (p.parts=q.parts)
theorem le_max{n:Nat}(h:n≤lim):n≤maxLen:=by unfold lim at h;unfold maxLen;omega
theorem lM{α:Type}{p:α→Bool}(l:List α)(k:Nat)(h:k<l.length)(h1:(l.take k).all p=true)(h2:p l[k]=true):(l.take (k+1)).all p=true:=by
 rw[List.take_succ_eq_append_getElem h,List.all_append,h1];simp[h2]
theorem o6{α:Type}{p:α→Bool}(l:List α)(k:Nat)(h:k<l.length)(h2:p l[k]=false):l.all p=false:=by
 rw[List.all_eq_false];exact⟨l[k],List.getElem_mem h,by simp[h2]⟩
theorem o7{α:Type}{p:α→Bool}(l:List α)(k:Nat)(h:l.length≤k)(h1:(l.take k).all p=true):l.all p=true:=by
 rwa[List.take_of_length_le h]at h1
theorem IC(s:ByteArray)(k:Nat)(h:k<s.size):kX s k=(nO s[k]&&!(fJ s[k]&&(k == 0 || k+1 == s.size || (s.data.toList[k-1]?).any fJ))):=by
 unfold kX;rw[D7 s k h]
theorem D8(s:ByteArray)(k:Nat)(h:k<s.size)(hn:kX s k=false):iL s=false:=by
 have:(List.range s.size).all (kX s)=false:=by rw[List.all_eq_false];exact⟨k,List.mem_range.2 h,by simp[hn]⟩
 rw[iL,this];rfl
theorem D9(s:ByteArray)(k:Nat)(h:(List.range k).all (kX s)=true)(hn:kX s k=true):(List.range (k+1)).all (kX s)=true:=by
 rw[List.range_succ,List.all_append,h];simp[hn]
theorem Zu(s:ByteArray)(k:Nat)(hk:k=s.size)(h:(List.range k).all (kX s)=true):iL s=sized s:=by
 subst hk;rw[iL,h];rfl
theorem Zv(c:Int):c=46∨c=45∨(65≤c∧c≤90)∨(48≤c∧c≤57)∨c<45∨c=47∨(57<c∧c<65)∨90<c:=by omega
theorem Ak{c:UInt8}(h:(c.toNat:Int)=46∨(c.toNat:Int)=45∨(65≤(c.toNat:Int)∧(c.toNat:Int)≤90)∨(48≤(c.toNat:Int)∧(c.toNat:Int)≤57)):nO c=true:=by
 unfold nO;simp;omega
theorem Zw{c:UInt8}(h:(c.toNat:Int)<45∨(c.toNat:Int)=47∨(57<(c.toNat:Int)∧(c.toNat:Int)<65)∨90<(c.toNat:Int)):nO c=false:=by
 unfold nO;simp;omega
theorem Ea{c:UInt8}(h:¬(c.toNat:Int)=46):fJ c=false:=by unfold fJ;simpa using h
theorem OQ{c:UInt8}(h:(c.toNat:Int)=46):fJ c=true:=by unfold fJ;simpa using h
theorem Zx{s:ByteArray}{k:Nat}(hk:k<s.size)(h:nO s[k]=false):kX s k=false:=by rw[IC s k hk,h];rfl
theorem IE{s:ByteArray}{k:Nat}(hk:k<s.size)(h:nO s[k]=true)(h':fJ s[k]=false):kX s k=true:=by rw[IC s k hk,h,h'];rfl
theorem Zy{s:ByteArray}{k:Nat}(hk:k<s.size)(h':fJ s[k]=true):kX s k=!(k == 0 || k+1 == s.size || (s.data.toList[k-1]?).any fJ):=by
 have:nO s[k]=true:=Ak (.inl (by unfold fJ at h';simpa using h'))
 rw[IC s k hk,this,h'];rfl
theorem IG{s:ByteArray}(h:((s.size:Int)<1∨32<(s.size:Int))∨(!visible s)=true):eQ s=false:=by
 unfold eQ sized
 rcases h with h|h
 ·have:(decide (1≤(s.size:Int))&&decide ((s.size:Int)≤32))=false:=by simp;omega
  rw[this];simp
 ·have:visible s=false:=by simpa using h
  rw[this];rfl
theorem Zz{s:ByteArray}(h:32<(s.size:Int)):eQ s=false:=IG (.inl (.inr h))
theorem ZA{s:ByteArray}(h:(s.size:Int)<1):eQ s=false:=IG (.inl (.inl h))
theorem ZB{s:ByteArray}(h:(1≤(s.size:Int)∧(s.size:Int)≤32)∧(!visible s)=false):eQ s=true:=by
 have:visible s=true:=by simpa using h.2
 unfold eQ sized;rw[this];simp[h.1]
theorem OT{p:aG}(k:Nat)(hlt:k<p.parts.length)(h:eQ p.parts[k]=false):aY p=false:=by rw[aY,o6 p.parts k hlt h];rfl
theorem ZC{p:aG}(h:p.parts.all eQ=true)(h1:1≤(p.parts.length:Int))(h2:(p.parts.length:Int)≤4):aY p=iL p.aQ:=by simp[aY,h,h1,h2]
theorem ZE{p:aG}(h2:4<(p.parts.length:Int)):aY p=false:=by
 have:decide ((p.parts.length:Int)≤4)=false:=by simp;omega
 simp[aY,this]
theorem ZF{p:aG}(h2:(p.parts.length:Int)<1):aY p=false:=by
 have:decide (1≤(p.parts.length:Int))=false:=by simp;omega
 simp[aY,this]
end Go.WW
namespace Go.Proofs.YtibhckkjciflaaaGreatDoor
open Go.RowKit Go.WW
theorem ZG(s:ByteArray)(w:World)(hs:s.size≤lim):Calls Tryz.prog 93 #[.string s] w fun e w'=>e=.returned (.bool (iL s))∧w=w':=by
 have hs':s.size≤4294967000:=hs
 go_enter Tryz.func93,Tryz.ntmps93
 go_wp2
 go_loop [3] (fun i=>∃k:Nat,k≤s.size∧i=.int .i64 k∧Hid ((List.range k).all (kX s)=true)) (fun i=>s.size-(intOf i).toNat)
 case atStart=>exact⟨0,Nat.zero_le _,rfl,by simp[Hid]⟩
 case round=>
  obtain⟨k,hk,rfl,hall⟩:=hrel
  by_cases hlt:k<s.size
  ·have hall':=hall;clear hall
   rcases Zv (s[k].toNat:Int)with hc|hc|⟨hc1,hc2⟩|⟨hc1,hc2⟩|hc|hc|⟨hc1,hc2⟩|hc
   ·have HD:=OQ hc
    have HA:=Lib.hid (Zy hlt HD)
    clear HD
    have hb:((s[k].toNat:Int) == 46)=true:=by simp[hc]
    have hb':((s[k].toNat:Int) != 46)=false:=by simp[hc]
    clear hc
    by_cases h0:k=0
    ·subst h0
     go_wp2
     go_ret
     exact⟨by rw[D8 s 0 hlt (by rw[HA.out];rfl)];rfl,rfl⟩
    ·have h0':((k:Int) == 0)=false:=by simp;omega
     by_cases h1:k+1=s.size
     ·have h1':((k:Int) == (s.size:Int)-1)=true:=by simp;omega
      have H1:=Lib.hid h1
      clear h1
      go_wp2
      go_ret
      exact⟨by rw[D8 s k hlt (by rw[HA.out,H1.out];simp)];rfl,rfl⟩
     ·obtain⟨j,rfl⟩:∃j,k=j+1:=⟨k-1,by omega⟩
      have hj:j<s.size:=by omega
      have amc:((j:Int)+1 == 0)=false:=by simp;omega
      have h1':((j:Int)+1 == (s.size:Int)-1)=false:=by simp;omega
      have H1:=Lib.hid h1
      clear h1 h0 h0'
      by_cases h2:(s[j].toNat:Int)=46
      ·have h2':((s[j].toNat:Int) == 46)=true:=by simp[h2]
       have HJ:=Lib.hid (OQ h2)
       clear h2
       go_wp2
       go_ret
       exact⟨by rw[D8 s (j+1) hlt (by rw[HA.out];simp[D7 s j hj,HJ.out])];rfl,rfl⟩
      ·have h2':((s[j].toNat:Int) == 46)=false:=by simp[h2]
       have HJ:=Lib.hid (Ea h2)
       clear h2
       have HS:=Lib.hid (D9 s (j+1) hall'.out (by rw[HA.out];simp[D7 s j hj,HJ.out,H1.out]))
       go_wp2
       go_round
       case rel=>exact⟨j+1+1,by omega,by go_num,HS.out⟩
       case measure=>simp[intOf];omega
   ·have HA:=Lib.hid (IE hlt (Ak (.inr (.inl hc))) (Ea (by omega)))
    go_wp2
    go_round
    case rel=>exact⟨k+1,by omega,by go_num,D9 s k hall'.out HA.out⟩
    case measure=>simp[intOf];omega
   ·have HA:=Lib.hid (IE hlt (Ak (.inr (.inr (.inl ⟨hc1,hc2⟩)))) (Ea (by omega)))
    go_wp2
    go_round
    case rel=>exact⟨k+1,by omega,by go_num,D9 s k hall'.out HA.out⟩
    case measure=>simp[intOf];omega
   ·have HA:=Lib.hid (IE hlt (Ak (.inr (.inr (.inr ⟨hc1,hc2⟩)))) (Ea (by omega)))
    go_wp2
    go_round
    case rel=>exact⟨k+1,by omega,by go_num,D9 s k hall'.out HA.out⟩
    case measure=>simp[intOf];omega
   all_goals
    have HA:=Lib.hid (D8 s k hlt (Zx hlt (Zw (by omega))))
    have b1:((s[k].toNat:Int) == 46)=false:=by simp;omega
    have b2:((s[k].toNat:Int) != 46)=true:=by simp;omega
    have b3:((s[k].toNat:Int) != 45)=true:=by simp;omega
    first|(have b4:decide ((s[k].toNat:Int)≤57)=false:=(by simp;omega))|skip
    first|(have b5:decide ((s[k].toNat:Int)≤90)=false:=(by simp;omega))|skip
    go_wp2
    go_ret
    exact⟨by rw[HA.out];rfl,rfl⟩
  ·have HE:=Lib.hid (Zu s k (by omega) hall.out)
   go_wp2
   all_goals go_ret
   all_goals exact⟨by rw[HE.out];first|rfl|(simp[sized, *];done)|(simp[sized];omega),rfl⟩
theorem uf(s:Sl)(p:aG)(w:World)(hp:gu w s p):Calls Tryz.prog 36 #[.agg (aJ s p)] w fun e w'=>e=.returned (.bool (aY p))∧Below w.heap.size w w':=by
 have hl:p.parts.length≤4294967000:=hp.1.1
 go_enter Tryz.func36,Tryz.ntmps36
 go_wp2
 go_loop [3] (fun i=>∃k:Nat,k≤p.parts.length∧i=.int .i64 k∧Hid ((p.parts.take k).all eQ=true)) (fun i=>p.parts.length-(intOf i).toNat)
 case atStart=>exact⟨0,Nat.zero_le _,rfl,by simp[Hid]⟩
 case round=>
  obtain⟨k,hk,rfl,hall⟩:=hrel
  by_cases hlt:k<p.parts.length
  ·obtain⟨b,o,ha,hc,hsz⟩:=hp.1.get k hlt
   have hb:b<w.heap.size:=World.block_lt_of_cell? w _ hc
   go_wp2_with (go_at_call 92;refine(IA _ _ (le_max hsz)).mono ?_;rintro e w' ⟨rfl,rfl⟩)
   all_goals first
    |(go_ret
      have hno:eQ p.parts[k]=false:=by first|exact IG ‹_›|exact Zz ‹_›|exact ZA ‹_›
      exact⟨by rw[OT k hlt hno];rfl,(Below.refl _ _).alloc (Nat.le_refl _) _⟩)
    |(go_round
      case rel=>exact⟨k+1,by omega,by go_num,lM p.parts k hlt hall.out (ZB ‹_›)⟩
      case measure=>simp[intOf];omega)
  ·have hy:=o7 p.parts k (by omega) hall.out
   have HY:Hid (p.parts.all eQ=true):=hy
   clear hy
   go_wp2_with (go_at_call 93;refine(ZG _ _ hp.2).mono ?_;rintro e w' ⟨rfl,rfl⟩)
   all_goals go_ret
   all_goals exact⟨by first|(rw[ZC HY.out ‹_› ‹_›];rfl)|(rw[ZE ‹_›];rfl)|(rw[ZF ‹_›];rfl),(Below.refl _ _).alloc (Nat.le_refl _) _⟩
end Go.Proofs.YtibhckkjciflaaaGreatDoor
namespace Go.WW
theorem str_eq(a b:ByteArray)(h:a=b):(a.toList == b.toList)=true:=by subst h;simp
theorem Am(a b:ByteArray)(h:¬a=b):(a.toList == b.toList)=false:=by
 rw[ByteArray.toList_eq,ByteArray.toList_eq,beq_eq_false_iff_ne]
 exact fun e=>h (WideShapes.bytes_inj e)
theorem OU{p q:aG}(h:¬p.aQ=q.aQ):bH p q=false:=by simp[bH,h]
theorem ZH{p q:aG}(h:¬p.parts.length=q.parts.length):bH p q=false:=by
 have:decide (p.parts=q.parts)=false:=by simp;intro e;exact h (by rw[e])
 simp[bH,this]
theorem ZI{p q:aG}(k:Nat)(h1:k<p.parts.length)(h2:k<q.parts.length)(h:¬p.parts[k]=q.parts[k]):bH p q=false:=by
 have:decide (p.parts=q.parts)=false:=by simp;intro e;exact h (by simp[e])
 simp[bH,this]
theorem ZJ{p q:aG}(k:Nat)(hr:p.aQ=q.aQ)(h1:p.parts.length≤k)(h2:q.parts.length≤k)(h:p.parts.take k=q.parts.take k):bH p q=true:=by
 rw[List.take_of_length_le h1,List.take_of_length_le h2]at h
 simp[bH,hr,h]
theorem ZK{α:Type}{l m:List α}(k:Nat)(h1:k<l.length)(h2:k<m.length)(h:l.take k=m.take k)(he:l[k]=m[k]):l.take (k+1)=m.take (k+1):=by
 rw[List.take_succ_eq_append_getElem h1,List.take_succ_eq_append_getElem h2,h,he]
end Go.WW
namespace Go.Proofs.YtibhckkjciflaaaGreatDoor
open Go.RowKit Go.WW
theorem ug(s t:Sl)(p q:aG)(w:World)(hp:gu w s p)(hq:gu w t q):Calls Tryz.prog 41 #[.agg (aJ s p),.agg (aJ t q)] w fun e w'=>e=.returned (.bool (bH p q))∧Below w.heap.size w w':=by
 have hl:p.parts.length≤4294967000:=hp.1.1
 have hB:Below w.heap.size w ((w.alloc (.cells (aJ s p) 25)).alloc (.cells (aJ t q) 25)):=((Below.refl _ _).alloc (Nat.le_refl _) _).alloc (by simp) _
 by_cases hr:p.aQ=q.aQ
 ·have hr':=str_eq _ _ hr
  have HR:=Lib.hid hr;clear hr
  by_cases hn:p.parts.length=q.parts.length
  ·have hn':((p.parts.length:Int) != (q.parts.length:Int))=false:=by simp[hn]
   have hn1:p.parts.length≤q.parts.length:=by omega
   have hn2:q.parts.length≤p.parts.length:=by omega
   clear hn
   go_enter Tryz.func41,Tryz.ntmps41
   go_wp2
   go_loopw [5] (fun i wr=>Below ((w.alloc (.cells (aJ s p) 25)).alloc (.cells (aJ t q) 25)).heap.size ((w.alloc (.cells (aJ s p) 25)).alloc (.cells (aJ t q) 25)) wr∧∃k:Nat,k≤p.parts.length∧i=.int .i64 k∧Hid (p.parts.take k=q.parts.take k)) (fun i _=>p.parts.length-(intOf i).toNat)
   case atStart=>exact⟨Below.refl _ _,0,Nat.zero_le _,rfl,by simp[Hid]⟩
   case round=>
    obtain⟨hbr,k,hk,rfl,hall⟩:=hrel
    obtain⟨hcc,ax,hrr⟩:=aK hbr
    by_cases hlt:k<p.parts.length
    ·have hlq:k<q.parts.length:=by omega
     obtain⟨b,o,ha,hc,hsz⟩:=hp.1.get k hlt
     obtain⟨b',o',ha',hc',hsz'⟩:=hq.1.get k hlq
     have hb:b<w.heap.size:=World.block_lt_of_cell? w _ hc
     have hb':b'<w.heap.size:=World.block_lt_of_cell? w _ hc'
     have hb1:b<w.heap.size+1+1:=by omega
     have hb1':b'<w.heap.size+1+1:=by omega
     have hki:(k:Int)<(p.parts.length:Int):=by omega
     have hkq:(k:Int)<(q.parts.length:Int):=by omega
     by_cases he:p.parts[k]=q.parts[k]
     ·have he':=str_eq _ _ he
      have HT:=Lib.hid (ZK k hlt hlq hall.out he)
      clear he
      go_wp2
      refine dZ hbr (by kernel_rfl) (by kernel_rfl) ?_
      repeat (go_big_quiet_step (fail))
      refine wpQuiet_nil ?_
      intro w2 hb2
      go_wp2
      go_roundw
      case rel=>exact⟨hb2,k+1,by omega,by go_num,HT.out⟩
      case measure=>simp[intOf];omega
     ·have he':=Am _ _ he
      have HT:=Lib.hid (ZI k hlt hlq he)
      clear he
      go_wp2
      refine dZ hbr (by kernel_rfl) (by kernel_rfl) ?_
      repeat (go_big_quiet_step (fail))
      refine wpQuiet_nil ?_
      intro w2 hb2
      go_wp2
      go_ret
      exact⟨by rw[HT.out];rfl,hB.trans (hb2.mono (by simp;omega))⟩
    ·have HT:=Lib.hid (ZJ k HR.out (by omega) (by omega) hall.out)
     go_wp2
     go_ret
     exact⟨by rw[HT.out];rfl,hB.trans (hbr.mono (by simp;omega))⟩
  ·have hn':((p.parts.length:Int) != (q.parts.length:Int))=true:=by simp;omega
   have HN:=Lib.hid (ZH hn);clear hn
   go_enter Tryz.func41,Tryz.ntmps41
   go_wp2
   go_ret
   exact⟨by rw[HN.out];rfl,hB⟩
 ·have hr':=Am _ _ hr
  have HN:=Lib.hid (OU hr);clear hr
  go_enter Tryz.func41,Tryz.ntmps41
  go_wp2
  go_ret
  exact⟨by rw[HN.out];rfl,hB⟩
end Go.Proofs.YtibhckkjciflaaaGreatDoor
namespace Go.WW
def dQ(p:Int):Int:=if p == 1 then 16 else if p == 2 then 32 else 0
def lN(k:Key):Bool:=decide (0<dQ k.profile)&&((k.bytes.length:Int) == dQ k.profile)&&ag k.version 0 65535
def iy(dF ZL:Int)(k:Key):Bool:=!(dQ k.profile == 0)&&!(k.version != ZL)&&(if dF == 0 then lN k else ag k.bytes.length 1 256)
def iZ{α:Type}(r:α→α→Bool)(l:List α)(i:Nat):Bool:=i == 0 || (match l[i-1]?,l[i]? with|some a,some b=>r a b|_,_=>true)
def ordered{α:Type}(r:α→α→Bool)(l:List α):Bool:=(List.range l.length).all (iZ r l)
def kY(a b:Key):Bool:=decide (a.profile<b.profile)
def iM(s:aW):Bool:=ag s.version 1 65535&&ag s.keys.length 1 4&&decide ((s.bF.size:Int)≤256)&&ag s.dm 0 65536&&(decide (0<s.dm) || s.bF.toList.isEmpty)&&ag s.created 0 1099511627776
def gU(dF:Int)(s:aW):Bool:=s.keys.all (iy dF s.version)&&ordered kY s.keys&&iM s
theorem Eb{f:Nat→Bool}(k:Nat)(h:(List.range k).all f=true)(hn:f k=true):(List.range (k+1)).all f=true:=by
 rw[List.range_succ,List.all_append,h];simp[hn]
theorem Ap{f:Nat→Bool}(n k:Nat)(h:k<n)(hn:f k=false):(List.range n).all f=false:=by
 rw[List.all_eq_false];exact⟨k,List.mem_range.2 h,by simp[hn]⟩
theorem ZM{f:Nat→Bool}(n k:Nat)(hk:k=n)(h:(List.range k).all f=true):(List.range n).all f=true:=by subst hk;exact h
end Go.WW
namespace Go.Proofs.YtibhckkjciflaaaGreatDoor
open Go.RowKit Go.WW
theorem qj(p:Int)(w:World):Calls Tryz.prog 143 #[.int .i64 p] w fun e w'=>e=.returned (.int .i64 (dQ p))∧w=w':=by
 rcases(show p=1∨p=2∨(¬p=1∧¬p=2) by omega)with rfl|rfl|⟨h1,h2⟩
 iterate 2
  ·go_enter Tryz.func143,Tryz.ntmps143
   go_wp2
   go_ret
   exact⟨rfl,rfl⟩
 ·have h1':(p == 1)=false:=by simpa using h1
  have h2':(p == 2)=false:=by simpa using h2
  have HK:Hid (dQ p=0):=by simp[Hid,dQ,h1,h2]
  clear h1 h2
  go_enter Tryz.func143,Tryz.ntmps143
  go_wp2
  go_ret
  exact⟨by rw[HK.out];rfl,rfl⟩
theorem vV(s:Sl)(k:Key)(w:World):Calls Tryz.prog 144 #[.agg (bG s k)] w fun e w'=>e=.returned (.bool (lN k))∧Below w.heap.size w w':=by
 have hB:∀ob,Below w.heap.size w (w.alloc ob):=fun ob=>(Below.refl _ _).alloc (Nat.le_refl _) _
 by_cases h1:0<dQ k.profile
 ·by_cases h2:(k.bytes.length:Int)=dQ k.profile
  ·have h2':((k.bytes.length:Int) == dQ k.profile)=true:=by simp[h2]
   have HF:Hid (lN k=ag k.version 0 65535):=by simp[Hid,lN,h1,h2]
   clear h2
   go_enter Tryz.func144,Tryz.ntmps144
   go_wp2
   refine dZ (Below.refl _ _) (by kernel_rfl) (by kernel_rfl) ?_
   repeat (go_big_quiet_step (first|(go_at_call 143;exact Calls.qR (qj _ _))|(go_at_call 91;exact Calls.qR (o5 _ _ _ _))))
   refine wpQuiet_nil ?_
   intro w2 hb2
   go_wp2
   go_ret
   exact⟨by rw[HF.out];rfl,(hB _).trans (hb2.mono (by simp))⟩
  ·have h2':((k.bytes.length:Int) == dQ k.profile)=false:=by simp[h2]
   have HF:Hid (lN k=false):=by simp[Hid,lN,h2]
   clear h2
   go_enter Tryz.func144,Tryz.ntmps144
   go_wp2
   refine dZ (Below.refl _ _) (by kernel_rfl) (by kernel_rfl) ?_
   repeat (go_big_quiet_step ((go_at_call 143;exact Calls.qR (qj _ _))))
   refine wpQuiet_nil ?_
   intro w2 hb2
   go_wp2
   go_ret
   exact⟨by rw[HF.out];rfl,(hB _).trans (hb2.mono (by simp))⟩
 ·have h1':decide (0<dQ k.profile)=false:=by simpa using h1
  have HF:Hid (lN k=false):=by simp[Hid,lN,h1']
  clear h1
  go_enter Tryz.func144,Tryz.ntmps144
  go_wp2
  refine dZ (Below.refl _ _) (by kernel_rfl) (by kernel_rfl) ?_
  repeat (go_big_quiet_step ((go_at_call 143;exact Calls.qR (qj _ _))))
  refine wpQuiet_nil ?_
  intro w2 hb2
  go_wp2
  go_ret
  exact⟨by rw[HF.out];rfl,(hB _).trans (hb2.mono (by simp))⟩
end Go.Proofs.YtibhckkjciflaaaGreatDoor
namespace Go.WW
def uh(l:List Key):Nat→Int
 |0=>0
 |j+1=>((l[j]?).map (·.profile)).getD 0
theorem ZN(x:aW)(h:¬ag x.version 1 65535=true):iM x=false:=by
 have hb:(ag x.version 1 65535)=false:=by first|exact h|(simpa using h)|(simp;omega)
 simp only[iM,hb,Bool.false_and]
theorem ZO(x:aW)(h:¬ag x.keys.length 1 4=true):iM x=false:=by
 have hb:(ag x.keys.length 1 4)=false:=by first|exact h|(simpa using h)|(simp;omega)
 simp only[iM,hb,Bool.false_and,Bool.and_false]
theorem ZP(x:aW)(h:256<(x.bF.size:Int)):iM x=false:=by
 have hb:(decide ((x.bF.size:Int)≤256))=false:=by first|exact h|(simpa using h)|(simp;omega)
 simp only[iM,hb,Bool.false_and,Bool.and_false]
theorem ZQ(x:aW)(h:¬ag x.dm 0 65536=true):iM x=false:=by
 have hb:(ag x.dm 0 65536)=false:=by first|exact h|(simpa using h)|(simp;omega)
 simp only[iM,hb,Bool.false_and,Bool.and_false]
theorem ZR(x:aW)(h:¬(0<x.dm∨x.bF.toList=[])):iM x=false:=by
 have hb:(decide (0<x.dm) || x.bF.toList.isEmpty)=false:=by first|exact h|(simpa using h)|(simp;omega)
 simp only[iM,hb,Bool.false_and,Bool.and_false]
theorem ZT(x:aW)(h:¬ag x.created 0 1099511627776=true):iM x=false:=by
 have hb:(ag x.created 0 1099511627776)=false:=by first|exact h|(simpa using h)|(simp;omega)
 simp only[iM,hb,Bool.and_false]
theorem OV(x:aW)(h1:ag x.version 1 65535=true)(h2:ag x.keys.length 1 4=true)(h3:(x.bF.size:Int)≤256)(h4:ag x.dm 0 65536=true)(h5:0<x.dm∨x.bF.toList=[]):iM x=(ag x.created 0 1099511627776):=by
 have e1:(ag x.version 1 65535)=true:=by first|exact h1|(simpa using h1)|(simp;omega)
 have e2:(ag x.keys.length 1 4)=true:=by first|exact h2|(simpa using h2)|(simp;omega)
 have e3:(decide ((x.bF.size:Int)≤256))=true:=by first|exact h3|(simpa using h3)|(simp;omega)
 have e4:(ag x.dm 0 65536)=true:=by first|exact h4|(simpa using h4)|(simp;omega)
 have e5:(decide (0<x.dm) || x.bF.toList.isEmpty)=true:=by first|exact h5|(simpa using h5)|(simp;omega)
 simp only[iM,e1,e2,e3,e4,e5,Bool.true_and]
theorem ZU(x:aW)(h1:ag x.version 1 65535=true)(h2:ag x.keys.length 1 4=true)(h3:(x.bF.size:Int)≤256)(h4:ag x.dm 0 65536=true)(h5:0<x.dm):iM x=ag x.created 0 1099511627776:=OV x h1 h2 h3 h4 (.inl h5)
theorem ZV(x:aW)(h1:ag x.version 1 65535=true)(h2:ag x.keys.length 1 4=true)(h3:(x.bF.size:Int)≤256)(h4:ag x.dm 0 65536=true):iM x=((decide (0<x.dm) || x.bF.toList.isEmpty)&&ag x.created 0 1099511627776):=by
 have e3:decide ((x.bF.size:Int)≤256)=true:=by simpa using h3
 simp only[iM,h1,h2,e3,h4,Bool.true_and]
theorem ZW{m:Int}{x:aW}(k:Nat)(hk:k=x.keys.length)(h1:(x.keys.take k).all (iy m x.version)=true)(h2:(List.range k).all (iZ kY x.keys)=true):gU m x=iM x:=by
 subst hk;rw[List.take_of_length_le (Nat.le_refl _)]at h1;simp[gU,ordered,h1,h2]
theorem Aq{m:Int}{x:aW}(k:Nat)(hk:k<x.keys.length)(h:iy m x.version x.keys[k]=false):gU m x=false:=by
 rw[gU,o6 x.keys k hk h];rfl
theorem ZX(l:List Key):uh l 0=0:=rfl
theorem Ec(l:List Key)(j:Nat)(h:j<l.length):uh l (j+1)=l[j].profile:=by simp[uh,h]
theorem ZY{p:Int}(h:p≤0):dQ p=0:=by
 have h1:(p == 1)=false:=by simp;omega
 have h2:(p == 2)=false:=by simp;omega
 simp[dQ,h1,h2]
theorem ZZ{m:Int}{x:aW}(k:Nat)(hk:k<x.keys.length)(h:x.keys[k].profile≤uh x.keys k):gU m x=false:=by
 cases k with
 |zero=>exact Aq 0 hk (by rw[iy,ZY (by simpa[ZX]using h)];rfl)
 |succ j=>
  rw[Ec x.keys j (by omega)]at h
  have:iZ kY x.keys (j+1)=false:=by
   have h1:j<x.keys.length:=by omega
   simp[iZ,hk,h1,kY];exact h
  have:ordered kY x.keys=false:=Ap _ _ hk this
  simp[gU,this]
theorem Z4{x:aW}(k:Nat)(hk:k<x.keys.length)(h:uh x.keys k<x.keys[k].profile)(h2:(List.range k).all (iZ kY x.keys)=true):(List.range (k+1)).all (iZ kY x.keys)=true:=by
 refine Eb k h2 ?_
 cases k with
 |zero=>rfl
 |succ j=>
  have h1:j<x.keys.length:=by omega
  rw[Ec x.keys j h1]at h
  simp[iZ,hk,h1,kY];exact h
end Go.WW
namespace Go.Proofs.YtibhckkjciflaaaGreatDoor
open Go.RowKit Go.WW
theorem Ar(s:Sl)(x:aW)(m:Int)(w:World)(hx:ig w s x):Calls Tryz.prog 90 #[.agg (aV s x),.int .i64 m] w fun e w'=>e=.returned (.bool (gU m x))∧Below w.heap.size w w':=by
 have hl:x.keys.length≤4294967000:=hx.1.1
 have hB:Below w.heap.size w (w.alloc (.cells (aV s x) 49)):=(Below.refl _ _).alloc (Nat.le_refl _) _
 go_enter Tryz.func90,Tryz.ntmps90
 go_wp2
 go_loopw [5,6] (fun t i wr=>Below (w.alloc (.cells (aV s x) 49)).heap.size (w.alloc (.cells (aV s x) 49)) wr∧∃k:Nat,k≤x.keys.length∧i=.int .i64 k∧t=.int .i64 (uh x.keys k)∧Hid ((x.keys.take k).all (iy m x.version)=true)∧Hid ((List.range k).all (iZ kY x.keys)=true)) (fun _ i _=>x.keys.length-(intOf i).toNat)
 case atStart=>exact⟨Below.refl _ _,0,Nat.zero_le _,rfl,rfl,by simp[Hid],by simp[Hid]⟩
 case round=>
  obtain⟨hbr,k,hk,rfl,rfl,hall,hord⟩:=hrel
  obtain⟨hcc,ax,hrr⟩:=aK hbr
  have hsz:w.heap.size<wr.heap.size:=by have:=hbr.size;simp at this;omega
  by_cases hlt:k<x.keys.length
  ·obtain⟨b,o,t,ha,hc,hkey⟩:=hx.1.get k hlt
   have hb:b<w.heap.size:=kT hc
   have hb1:b<w.heap.size+1:=by omega
   have hki:(k:Int)<(x.keys.length:Int):=by omega
   by_cases hA:x.keys[k].profile≤uh x.keys k
   ·have HN:=Lib.hid (ZZ (m:=m) k hlt hA)
    go_wp2_with (first|(go_at_call 143;refine(qj _ _).mono ?_;rintro e w' ⟨rfl,rfl⟩)|(go_at_call 91;refine(o5 _ _ _ _).mono ?_;rintro e w' ⟨rfl,rfl⟩)|(go_at_call 144;refine(vV _ _ _).mono ?_;rintro e w2 ⟨rfl,hb2⟩;obtain⟨hc2,hf2,hr2⟩:=aK hb2))
    go_ret
    exact⟨by rw[HN.out];rfl,hB.trans ((az hbr _).mono (by simp))⟩
   ·have hA':uh x.keys k<x.keys[k].profile:=by omega
    have HO:=Lib.hid (Z4 k hlt hA' hord.out)
    clear hA
    by_cases hK:dQ x.keys[k].profile=0
    ·have hK':(dQ x.keys[k].profile == 0)=true:=by simp[hK]
     have HN:=Lib.hid (Aq (m:=m) k hlt (by simp[iy,hK']))
     clear hK
     go_wp2_with (first|(go_at_call 143;refine(qj _ _).mono ?_;rintro e w' ⟨rfl,rfl⟩)|(go_at_call 91;refine(o5 _ _ _ _).mono ?_;rintro e w' ⟨rfl,rfl⟩)|(go_at_call 144;refine(vV _ _ _).mono ?_;rintro e w2 ⟨rfl,hb2⟩;obtain⟨hc2,hf2,hr2⟩:=aK hb2))
     go_ret
     exact⟨by rw[HN.out];rfl,hB.trans ((az hbr _).mono (by simp))⟩
    ·have hK':(dQ x.keys[k].profile == 0)=false:=by simp[hK]
     clear hK
     cases hC:(x.keys[k].version != x.version)
     ·by_cases hm:m=0
      ·subst hm
       cases hD:lN x.keys[k]
       ·have HN:=Lib.hid (Aq (m:=0) k hlt (by simp[iy,hD]))
        go_wp2_with (first|(go_at_call 143;refine(qj _ _).mono ?_;rintro e w' ⟨rfl,rfl⟩)|(go_at_call 91;refine(o5 _ _ _ _).mono ?_;rintro e w' ⟨rfl,rfl⟩)|(go_at_call 144;refine(vV _ _ _).mono ?_;rintro e w2 ⟨rfl,hb2⟩;obtain⟨hc2,hf2,hr2⟩:=aK hb2))
        go_ret
        exact⟨by rw[HN.out];rfl,hB.trans ((af (az hbr _) hb2).mono (by simp))⟩
       ·have HN:=Lib.hid (lM (p:=iy 0 x.version) x.keys k hlt hall.out (by simp[iy,hK',hC,hD]))
        go_wp2_with (first|(go_at_call 143;refine(qj _ _).mono ?_;rintro e w' ⟨rfl,rfl⟩)|(go_at_call 91;refine(o5 _ _ _ _).mono ?_;rintro e w' ⟨rfl,rfl⟩)|(go_at_call 144;refine(vV _ _ _).mono ?_;rintro e w2 ⟨rfl,hb2⟩;obtain⟨hc2,hf2,hr2⟩:=aK hb2))
        go_roundw
        case rel=>exact⟨af (az hbr _) hb2,k+1,by omega,by go_num,by rw[Ec _ _ hlt],HN.out,HO.out⟩
        case measure=>simp[intOf];omega
      ·have hm1:(m == 0)=false:=by simp[hm]
       have hm2:(m != 0)=true:=by simp[hm]
       clear hm
       cases hD:ag x.keys[k].bytes.length 1 256
       ·have HN:=Lib.hid (Aq (m:=m) k hlt (by simp[iy,hD,hm1]))
        go_wp2_with (first|(go_at_call 143;refine(qj _ _).mono ?_;rintro e w' ⟨rfl,rfl⟩)|(go_at_call 91;refine(o5 _ _ _ _).mono ?_;rintro e w' ⟨rfl,rfl⟩)|(go_at_call 144;refine(vV _ _ _).mono ?_;rintro e w2 ⟨rfl,hb2⟩;obtain⟨hc2,hf2,hr2⟩:=aK hb2))
        go_ret
        exact⟨by rw[HN.out];rfl,hB.trans ((az hbr _).mono (by simp))⟩
       ·have HN:=Lib.hid (lM (p:=iy m x.version) x.keys k hlt hall.out (by simp[iy,hK',hC,hD,hm1]))
        go_wp2_with (first|(go_at_call 143;refine(qj _ _).mono ?_;rintro e w' ⟨rfl,rfl⟩)|(go_at_call 91;refine(o5 _ _ _ _).mono ?_;rintro e w' ⟨rfl,rfl⟩)|(go_at_call 144;refine(vV _ _ _).mono ?_;rintro e w2 ⟨rfl,hb2⟩;obtain⟨hc2,hf2,hr2⟩:=aK hb2))
        go_roundw
        case rel=>exact⟨az hbr _,k+1,by omega,by go_num,by rw[Ec _ _ hlt],HN.out,HO.out⟩
        case measure=>simp[intOf];omega
     ·have HN:=Lib.hid (Aq (m:=m) k hlt (by simp[iy,hC]))
      go_wp2_with (first|(go_at_call 143;refine(qj _ _).mono ?_;rintro e w' ⟨rfl,rfl⟩)|(go_at_call 91;refine(o5 _ _ _ _).mono ?_;rintro e w' ⟨rfl,rfl⟩)|(go_at_call 144;refine(vV _ _ _).mono ?_;rintro e w2 ⟨rfl,hb2⟩;obtain⟨hc2,hf2,hr2⟩:=aK hb2))
      go_ret
      exact⟨by rw[HN.out];rfl,hB.trans ((az hbr _).mono (by simp))⟩
  ·have HE:=Lib.hid (ZW (m:=m) k (by omega) hall.out hord.out)
   go_wp2_with (first|(go_at_call 91;refine(o5 _ _ _ _).mono ?_;rintro e w' ⟨rfl,rfl⟩))
   all_goals go_ret
   all_goals exact⟨by rw[HE.out];first|(rw[ZN x ‹_›];rfl)|(rw[ZO x ‹_›];rfl)|(rw[ZP x ‹_›];rfl)|(rw[ZQ x ‹_›];rfl)|(rw[ZR x ‹_›];rfl)|(rw[ZT x ‹_›];rfl)|(rw[OV x ‹_› ‹_› ‹_› ‹_› ‹_›];rfl)|(rw[ZU x ‹_› ‹_› ‹_› ‹_› ‹_›];rfl)|(rw[ZV x ‹_› ‹_› ‹_› ‹_›];rfl),hB.trans (hbr.mono (by simp))⟩
end Go.Proofs.YtibhckkjciflaaaGreatDoor
