/- A part of the proof. -/
import Derived.Test.YtpfifochimkpfaaGreatDoorA02
import Derived.Test.YtpfifochimkpfaaGreatDoorProg
import Derived.Carry
import Derived.WideMake
import Derived.RangeFuncOwn
import Derived.Maps.RangeRun
namespace Go.WW
open Go.RowKit
def lim:Nat:=4294967000
section
variable (w:World)
def bH(k:Nat)(a:Option Addr)(n:Nat)(R:Nat→Array Value→Prop):Prop:=
 n≤lim∧∀i,i<n→∃b o cs,a=some ⟨b,o,none⟩∧row? w b (o+i*k) k=some cs∧R i cs
def dO(a:Option Addr)(n:Nat)(R:Nat→Value→Prop):Prop:=
 n≤lim∧∀i,i<n→∃b o v,a=some ⟨b,o,none⟩∧w.cell? ⟨b,o+i,none⟩=some v∧R i v
def jH(a:Option Addr)(l:List ByteArray):Prop:=dO w a l.length fun i v=>∃s,l[i]?=some s∧v=.string s∧s.size≤lim
def BytesAt(a:Option Addr)(l:List UInt8):Prop:=dO w a l.length fun i v=>∃c,l[i]?=some c∧v=.int .u8 c.toNat
def pU(a:Option Addr)(l:List Int):Prop:=dO w a l.length fun i v=>∃c,l[i]?=some c∧v=.int .i64 c
def qH(a:Option Addr)(l:List Bool):Prop:=dO w a l.length fun i v=>∃c,l[i]?=some c∧v=.bool c
def bK(s:Sl)(p:aH):Prop:=jH w s.a p.parts∧p.aJ.size≤lim
def fQ(a:Option Addr)(l:List aH):Prop:=bH w 2 a l.length fun i cs=>∃p s,l[i]?=some p∧cs=az s p∧bK w s p
def mg(s:Sl)(k:Key):Prop:=BytesAt w s.a k.bytes
def kF(a:Option Addr)(l:List Key):Prop:=bH w 3 a l.length fun i cs=>∃k s,l[i]?=some k∧cs=dD s k∧mg w s k
def kG(s:Sl)(k:bP):Prop:=kF w s.a k.keys∧k.dK.size≤lim
def lL(a:Option Addr)(l:List bP):Prop:=bH w 5 a l.length fun i cs=>∃k s,l[i]?=some k∧cs=bY s k∧kG w s k
def dY(a:Option Addr)(l:List (List UInt8)):Prop:=dO w a l.length fun i v=>∃x,∃s:Sl,l[i]?=some x∧v=.slice s.a x.length s.cap∧BytesAt w s.a x
structure aS(r:aK)(d:Entry):Prop where
 name:bK w r.parts d.name
 aliases:fQ w r.aliases.a d.aliases
 keys:lL w r.keys.a d.keys
 targets:fQ w r.targets.a d.targets
 bW:fQ w r.bW.a d.bW
 history:dY w r.history.a d.history
 aP:d.aP.size≤lim
 attrs:0≤d.attrs∧d.attrs≤4294967295
end
section
variable {w w':World} (h:Below w.heap.size w w')
include h
theorem bH.later{k:Nat}{a:Option Addr}{n:Nat}{R R':Nat→Array Value→Prop}(hR:∀i cs,R i cs→R' i cs)(x:bH w k a n R):bH w' k a n R':=by
 refine⟨x.1,fun i hi=>?_⟩
 obtain⟨b,o,cs,ha,hr,hR1⟩:=x.2 i hi
 exact⟨b,o,cs,ha,by rw[fG (h.block b (fA hr))];exact hr,hR i cs hR1⟩
theorem dO.later{a:Option Addr}{n:Nat}{R R':Nat→Value→Prop}(hR:∀i cs,R i cs→R' i cs)(x:dO w a n R):dO w' a n R':=by
 refine⟨x.1,fun i hi=>?_⟩
 obtain⟨b,o,cs,ha,hr,hR1⟩:=x.2 i hi
 exact⟨b,o,cs,ha,by rw[h.cell (World.block_lt_of_cell? w _ hr)];exact hr,hR i cs hR1⟩
theorem jH.later{a:Option Addr}{l:List ByteArray}(x:jH w a l):jH w' a l:=dO.later h (fun _ _ y=>y) x
theorem BytesAt.later{a:Option Addr}{l:List UInt8}(x:BytesAt w a l):BytesAt w' a l:=dO.later h (fun _ _ y=>y) x
theorem pU.later{a:Option Addr}{l:List Int}(x:pU w a l):pU w' a l:=dO.later h (fun _ _ y=>y) x
theorem qH.later{a:Option Addr}{l:List Bool}(x:qH w a l):qH w' a l:=dO.later h (fun _ _ y=>y) x
theorem bK.later{s:Sl}{p:aH}(x:bK w s p):bK w' s p:=⟨x.1.later h,x.2⟩
theorem fQ.later{a:Option Addr}{l:List aH}(x:fQ w a l):fQ w' a l:=bH.later h (fun _ _ ⟨p,s,y1,y2,y3⟩=>⟨p,s,y1,y2,y3.later h⟩) x
theorem mg.later{s:Sl}{k:Key}(x:mg w s k):mg w' s k:=BytesAt.later h x
theorem kF.later{a:Option Addr}{l:List Key}(x:kF w a l):kF w' a l:=bH.later h (fun _ _ ⟨p,s,y1,y2,y3⟩=>⟨p,s,y1,y2,y3.later h⟩) x
theorem kG.later{s:Sl}{k:bP}(x:kG w s k):kG w' s k:=⟨x.1.later h,x.2⟩
theorem lL.later{a:Option Addr}{l:List bP}(x:lL w a l):lL w' a l:=bH.later h (fun _ _ ⟨p,s,y1,y2,y3⟩=>⟨p,s,y1,y2,y3.later h⟩) x
theorem dY.later{a:Option Addr}{l:List (List UInt8)}(x:dY w a l):dY w' a l:=dO.later h (fun _ _ ⟨p,s,y1,y2,y3⟩=>⟨p,s,y1,y2,y3.later h⟩) x
theorem aS.later{r:aK}{d:Entry}(x:aS w r d):aS w' r d:=
 ⟨x.name.later h,x.aliases.later h,x.keys.later h,x.targets.later h,x.bW.later h,x.history.later h,x.aP,x.attrs⟩
end
section
variable {w:World} {a:Option Addr}
theorem jH.get{l:List ByteArray}(x:jH w a l)(i:Nat)(h:i<l.length):∃b o,a=some ⟨b,o,none⟩∧w.cell? ⟨b,o+i,none⟩=some (.string l[i])∧l[i].size≤lim:=by
 obtain⟨b,o,v,h1,h2,s,h3,rfl,h4⟩:=x.2 i h
 rw[List.getElem?_eq_getElem h]at h3;cases h3
 exact⟨b,o,h1,h2,h4⟩
theorem BytesAt.get{l:List UInt8}(x:BytesAt w a l)(i:Nat)(h:i<l.length):∃b o,a=some ⟨b,o,none⟩∧w.cell? ⟨b,o+i,none⟩=some (.int .u8 l[i].toNat):=by
 obtain⟨b,o,v,h1,h2,s,h3,rfl⟩:=x.2 i h
 rw[List.getElem?_eq_getElem h]at h3;cases h3
 exact⟨b,o,h1,h2⟩
theorem pU.get{l:List Int}(x:pU w a l)(i:Nat)(h:i<l.length):∃b o,a=some ⟨b,o,none⟩∧w.cell? ⟨b,o+i,none⟩=some (.int .i64 l[i]):=by
 obtain⟨b,o,v,h1,h2,s,h3,rfl⟩:=x.2 i h
 rw[List.getElem?_eq_getElem h]at h3;cases h3
 exact⟨b,o,h1,h2⟩
theorem qH.get{l:List Bool}(x:qH w a l)(i:Nat)(h:i<l.length):∃b o,a=some ⟨b,o,none⟩∧w.cell? ⟨b,o+i,none⟩=some (.bool l[i]):=by
 obtain⟨b,o,v,h1,h2,s,h3,rfl⟩:=x.2 i h
 rw[List.getElem?_eq_getElem h]at h3;cases h3
 exact⟨b,o,h1,h2⟩
theorem fQ.get{l:List aH}(x:fQ w a l)(i:Nat)(h:i<l.length):∃b o s,a=some ⟨b,o,none⟩∧row? w b (o+i*2) 2=some (az s l[i])∧bK w s l[i]:=by
 obtain⟨b,o,v,h1,h2,p,s,h3,rfl,h4⟩:=x.2 i h
 rw[List.getElem?_eq_getElem h]at h3;cases h3
 exact⟨b,o,s,h1,h2,h4⟩
theorem kF.get{l:List Key}(x:kF w a l)(i:Nat)(h:i<l.length):∃b o s,a=some ⟨b,o,none⟩∧row? w b (o+i*3) 3=some (dD s l[i])∧mg w s l[i]:=by
 obtain⟨b,o,v,h1,h2,p,s,h3,rfl,h4⟩:=x.2 i h
 rw[List.getElem?_eq_getElem h]at h3;cases h3
 exact⟨b,o,s,h1,h2,h4⟩
theorem lL.get{l:List bP}(x:lL w a l)(i:Nat)(h:i<l.length):∃b o s,a=some ⟨b,o,none⟩∧row? w b (o+i*5) 5=some (bY s l[i])∧kG w s l[i]:=by
 obtain⟨b,o,v,h1,h2,p,s,h3,rfl,h4⟩:=x.2 i h
 rw[List.getElem?_eq_getElem h]at h3;cases h3
 exact⟨b,o,s,h1,h2,h4⟩
theorem dY.get{l:List (List UInt8)}(x:dY w a l)(i:Nat)(h:i<l.length):∃b o,∃s:Sl,a=some ⟨b,o,none⟩∧w.cell? ⟨b,o+i,none⟩=some (.slice s.a l[i].length s.cap)∧BytesAt w s.a l[i]:=by
 obtain⟨b,o,v,h1,h2,p,s,h3,rfl,h4⟩:=x.2 i h
 rw[List.getElem?_eq_getElem h]at h3;cases h3
 exact⟨b,o,s,h1,h2,h4⟩
end
theorem bH.addr{w:World}{k n:Nat}{a:Option Addr}{R:Nat→Array Value→Prop}(x:bH w k a n R):n=0∨∃b o,a=some ⟨b,o,none⟩∧b<w.heap.size:=by
 rcases Nat.eq_zero_or_pos n with h|h
 ·exact .inl h
 ·obtain⟨b,o,cs,ha,hr,_⟩:=x.2 0 h
  exact .inr ⟨b,o,ha,fA hr⟩
theorem dO.addr{w:World}{n:Nat}{a:Option Addr}{R:Nat→Value→Prop}(x:dO w a n R):n=0∨∃b o,a=some ⟨b,o,none⟩∧b<w.heap.size:=by
 rcases Nat.eq_zero_or_pos n with h|h
 ·exact .inl h
 ·obtain⟨b,o,v,ha,hr,_⟩:=x.2 0 h
  exact .inr ⟨b,o,ha,World.block_lt_of_cell? w _ hr⟩
theorem jH.at{w:World}{b o:Nat}{l:List ByteArray}(x:jH w (some ⟨b,o,none⟩) l)(i:Nat)(h:i<l.length):w.cell? ⟨b,o+i,none⟩=some (.string l[i])∧l[i].size≤lim:=by
 obtain⟨b',o',ha,hc,hs⟩:=x.get i h;cases ha;exact⟨hc,hs⟩
theorem BytesAt.at{w:World}{b o:Nat}{l:List UInt8}(x:BytesAt w (some ⟨b,o,none⟩) l)(i:Nat)(h:i<l.length):w.cell? ⟨b,o+i,none⟩=some (.int .u8 l[i].toNat):=by
 obtain⟨b',o',ha,hc⟩:=x.get i h;cases ha;exact hc
theorem pU.at{w:World}{b o:Nat}{l:List Int}(x:pU w (some ⟨b,o,none⟩) l)(i:Nat)(h:i<l.length):w.cell? ⟨b,o+i,none⟩=some (.int .i64 l[i]):=by
 obtain⟨b',o',ha,hc⟩:=x.get i h;cases ha;exact hc
theorem qH.at{w:World}{b o:Nat}{l:List Bool}(x:qH w (some ⟨b,o,none⟩) l)(i:Nat)(h:i<l.length):w.cell? ⟨b,o+i,none⟩=some (.bool l[i]):=by
 obtain⟨b',o',ha,hc⟩:=x.get i h;cases ha;exact hc
theorem fQ.at{w:World}{b o:Nat}{l:List aH}(x:fQ w (some ⟨b,o,none⟩) l)(i:Nat)(h:i<l.length):∃s,row? w b (o+i*2) 2=some (az s l[i])∧bK w s l[i]:=by
 obtain⟨b',o',s,ha,hc⟩:=x.get i h;cases ha;exact⟨s,hc⟩
theorem kF.at{w:World}{b o:Nat}{l:List Key}(x:kF w (some ⟨b,o,none⟩) l)(i:Nat)(h:i<l.length):∃s,row? w b (o+i*3) 3=some (dD s l[i])∧mg w s l[i]:=by
 obtain⟨b',o',s,ha,hc⟩:=x.get i h;cases ha;exact⟨s,hc⟩
theorem lL.at{w:World}{b o:Nat}{l:List bP}(x:lL w (some ⟨b,o,none⟩) l)(i:Nat)(h:i<l.length):∃s,row? w b (o+i*5) 5=some (bY s l[i])∧kG w s l[i]:=by
 obtain⟨b',o',s,ha,hc⟩:=x.get i h;cases ha;exact⟨s,hc⟩
theorem dY.at{w:World}{b o:Nat}{l:List (List UInt8)}(x:dY w (some ⟨b,o,none⟩) l)(i:Nat)(h:i<l.length):∃s:Sl,w.cell? ⟨b,o+i,none⟩=some (.slice s.a l[i].length s.cap)∧BytesAt w s.a l[i]:=by
 obtain⟨b',o',s,ha,hc⟩:=x.get i h;cases ha;exact⟨s,hc⟩
end Go.WW
namespace Go.Proofs.YtpfifochimkpfaaGreatDoor
open Go.RowKit Go.WW
def iI(T:TypeId)(parts:Array (Nat×Value)):Sem Next:=do pure (.value (←Instr.build T parts))
theorem Z4(w:World)(b o:Nat):(kP 35 (.pointer (some ⟨b,o,none⟩))).run Tryz.prog w=sK Tryz.prog 35 w b o (row? w b o 2):=wO Tryz.underlying35 rfl (by kernel_rfl) w b o
theorem Z5(ρ:Operand→Value)(dst:Option Tmp)(x:Operand)(ty:TypeId)(pos:String)(after:Array Edge)(guard:Option (Nat×Bool)):execOp ρ {dst,op:=.load 35 x,type:=ty,pos,after,guard}=kP 35 (ρ x):=rfl
attribute [go_sem] Z4
attribute [go_sem ↓] Z5
theorem Z7(w:World)(b o:Nat):(kP 176 (.pointer (some ⟨b,o,none⟩))).run Tryz.prog w=sK Tryz.prog 176 w b o (row? w b o 3):=wO Tryz.underlying176 rfl (by kernel_rfl) w b o
theorem Z8(ρ:Operand→Value)(dst:Option Tmp)(x:Operand)(ty:TypeId)(pos:String)(after:Array Edge)(guard:Option (Nat×Bool)):execOp ρ {dst,op:=.load 176 x,type:=ty,pos,after,guard}=kP 176 (ρ x):=rfl
attribute [go_sem] Z7
attribute [go_sem ↓] Z8
theorem Z9(w:World)(b o:Nat):(kP 80 (.pointer (some ⟨b,o,none⟩))).run Tryz.prog w=sK Tryz.prog 80 w b o (row? w b o 5):=wO Tryz.underlying80 rfl (by kernel_rfl) w b o
theorem aab(ρ:Operand→Value)(dst:Option Tmp)(x:Operand)(ty:TypeId)(pos:String)(after:Array Edge)(guard:Option (Nat×Bool)):execOp ρ {dst,op:=.load 80 x,type:=ty,pos,after,guard}=kP 80 (ρ x):=rfl
attribute [go_sem] Z9
attribute [go_sem ↓] aab
theorem aac(w:World)(b o:Nat):(kP 44 (.pointer (some ⟨b,o,none⟩))).run Tryz.prog w=sK Tryz.prog 44 w b o (row? w b o 17):=wO Tryz.underlying44 rfl (by kernel_rfl) w b o
theorem aad(ρ:Operand→Value)(dst:Option Tmp)(x:Operand)(ty:TypeId)(pos:String)(after:Array Edge)(guard:Option (Nat×Bool)):execOp ρ {dst,op:=.load 44 x,type:=ty,pos,after,guard}=kP 44 (ρ x):=rfl
attribute [go_sem] aac
attribute [go_sem ↓] aad
theorem aae(w:World)(b o:Nat):(kP 52 (.pointer (some ⟨b,o,none⟩))).run Tryz.prog w=sK Tryz.prog 52 w b o (row? w b o 10):=wO Tryz.underlying52 rfl (by kernel_rfl) w b o
theorem aaf(ρ:Operand→Value)(dst:Option Tmp)(x:Operand)(ty:TypeId)(pos:String)(after:Array Edge)(guard:Option (Nat×Bool)):execOp ρ {dst,op:=.load 52 x,type:=ty,pos,after,guard}=kP 52 (ρ x):=rfl
attribute [go_sem] aae
attribute [go_sem ↓] aaf
theorem aag(w:World)(b o:Nat):(kP 86 (.pointer (some ⟨b,o,none⟩))).run Tryz.prog w=sK Tryz.prog 86 w b o (row? w b o 27):=wO Tryz.underlying86 rfl (by kernel_rfl) w b o
theorem aah(ρ:Operand→Value)(dst:Option Tmp)(x:Operand)(ty:TypeId)(pos:String)(after:Array Edge)(guard:Option (Nat×Bool)):execOp ρ {dst,op:=.load 86 x,type:=ty,pos,after,guard}=kP 86 (ρ x):=rfl
attribute [go_sem] aag
attribute [go_sem ↓] aah
theorem aai(ρ:Operand→Value)(dst:Option Tmp)(i j:Nat)(x y:Operand)(ty:TypeId)(pos:String)(after:Array Edge)(guard:Option (Nat×Bool)):execOp ρ {dst,op:=.build 86 #[(i,x),(j,y)],type:=ty,pos,after,guard}=iI 86 #[(i,ρ x),(j,ρ y)]:=by simp[execOp,iI]
theorem aaj(w:World)(r:aK)(d:Entry)(p:ah):(iI 86 #[(0,.agg (ae r d)),(1,.agg (ak p))]).run Tryz.prog w=.ok (.value (.agg (aY r d p))) w:=by kernel_rfl
attribute [go_sem] aaj
attribute [go_sem ↓] aai
theorem aak(w:World)(b o:Nat)(cs:Array Value)(hn:cs.size=2)(h1:dL cs=true):(kQ 35 (.pointer (some ⟨b,o,none⟩)) (.agg cs)).run Tryz.prog w=sO Tryz.prog 35 w b o cs (aX w b o 2):=wP (by kernel_rfl) w b o cs hn h1
theorem aal(ρ:Operand→Value)(dst:Option Tmp)(x y:Operand)(ty:TypeId)(pos:String)(after:Array Edge)(guard:Option (Nat×Bool)):execOp ρ {dst,op:=.store 35 x y,type:=ty,pos,after,guard}=kQ 35 (ρ x) (ρ y):=rfl
attribute [go_sem] aak
attribute [go_sem ↓] aal
theorem aam(w:World)(b o:Nat)(cs:Array Value)(hn:cs.size=3)(h1:dL cs=true):(kQ 176 (.pointer (some ⟨b,o,none⟩)) (.agg cs)).run Tryz.prog w=sO Tryz.prog 176 w b o cs (aX w b o 3):=wP (by kernel_rfl) w b o cs hn h1
theorem aan(ρ:Operand→Value)(dst:Option Tmp)(x y:Operand)(ty:TypeId)(pos:String)(after:Array Edge)(guard:Option (Nat×Bool)):execOp ρ {dst,op:=.store 176 x y,type:=ty,pos,after,guard}=kQ 176 (ρ x) (ρ y):=rfl
attribute [go_sem] aam
attribute [go_sem ↓] aan
theorem aao(w:World)(b o:Nat)(cs:Array Value)(hn:cs.size=5)(h1:dL cs=true):(kQ 80 (.pointer (some ⟨b,o,none⟩)) (.agg cs)).run Tryz.prog w=sO Tryz.prog 80 w b o cs (aX w b o 5):=wP (by kernel_rfl) w b o cs hn h1
theorem aap(ρ:Operand→Value)(dst:Option Tmp)(x y:Operand)(ty:TypeId)(pos:String)(after:Array Edge)(guard:Option (Nat×Bool)):execOp ρ {dst,op:=.store 80 x y,type:=ty,pos,after,guard}=kQ 80 (ρ x) (ρ y):=rfl
attribute [go_sem] aao
attribute [go_sem ↓] aap
theorem aaq(w:World)(b o:Nat)(cs:Array Value)(hn:cs.size=17)(h1:dL cs=true):(kQ 44 (.pointer (some ⟨b,o,none⟩)) (.agg cs)).run Tryz.prog w=sO Tryz.prog 44 w b o cs (aX w b o 17):=wP (by kernel_rfl) w b o cs hn h1
theorem aar(ρ:Operand→Value)(dst:Option Tmp)(x y:Operand)(ty:TypeId)(pos:String)(after:Array Edge)(guard:Option (Nat×Bool)):execOp ρ {dst,op:=.store 44 x y,type:=ty,pos,after,guard}=kQ 44 (ρ x) (ρ y):=rfl
attribute [go_sem] aaq
attribute [go_sem ↓] aar
theorem aas(w:World)(b o:Nat)(cs:Array Value)(hn:cs.size=10)(h1:dL cs=true):(kQ 52 (.pointer (some ⟨b,o,none⟩)) (.agg cs)).run Tryz.prog w=sO Tryz.prog 52 w b o cs (aX w b o 10):=wP (by kernel_rfl) w b o cs hn h1
theorem aat(ρ:Operand→Value)(dst:Option Tmp)(x y:Operand)(ty:TypeId)(pos:String)(after:Array Edge)(guard:Option (Nat×Bool)):execOp ρ {dst,op:=.store 52 x y,type:=ty,pos,after,guard}=kQ 52 (ρ x) (ρ y):=rfl
attribute [go_sem] aas
attribute [go_sem ↓] aat
theorem aau(w:World)(b o:Nat)(cs:Array Value)(hn:cs.size=27)(h1:dL cs=true):(kQ 86 (.pointer (some ⟨b,o,none⟩)) (.agg cs)).run Tryz.prog w=sO Tryz.prog 86 w b o cs (aX w b o 27):=wP (by kernel_rfl) w b o cs hn h1
theorem aav(ρ:Operand→Value)(dst:Option Tmp)(x y:Operand)(ty:TypeId)(pos:String)(after:Array Edge)(guard:Option (Nat×Bool)):execOp ρ {dst,op:=.store 86 x y,type:=ty,pos,after,guard}=kQ 86 (ρ x) (ρ y):=rfl
attribute [go_sem] aau
attribute [go_sem ↓] aav
end Go.Proofs.YtpfifochimkpfaaGreatDoor
namespace Go.WW
structure yh{α:Type}(c:α→α→Int):Prop where
 zero:∀a b,c a b=0↔a=b
 sS:∀a b,c b a=- c a b
 trans:∀a b d,c a b<0→c b d<0→c a d<0
theorem Jq:∀l:List UInt8,Op.bytesLess l l=false
 | []=>rfl
 |a::l=>by simp[Op.bytesLess,Jq l]
theorem Jr:∀a b:List UInt8,Op.bytesLess a b=false→Op.bytesLess b a=false→a=b
 | [],[],_,_=>rfl
 | [],_::_,h,_=>by simp[Op.bytesLess]at h
 |_::_,[],_,h=>by simp[Op.bytesLess]at h
 |a::x,b::y,h,h'=>by
  simp only[Op.bytesLess,Bool.or_eq_false_iff,decide_eq_false_iff_not,Bool.and_eq_false_iff]at h h'
  have e:a=b:=UInt8.le_antisymm (UInt8.not_lt.1 h'.1) (UInt8.not_lt.1 h.1)
  subst e
  have h1:Op.bytesLess x y=false:=by rcases h.2 with h|h;simp at h;exact h
  have h2:Op.bytesLess y x=false:=by rcases h'.2 with h|h;simp at h;exact h
  rw[Jr x y h1 h2]
theorem Js:∀a b d:List UInt8,Op.bytesLess a b=true→Op.bytesLess b d=true→Op.bytesLess a d=true
 |_,[],_,h,_=>by simp[Op.bytesLess]at h
 |_,_::_,[],_,h=>by simp[Op.bytesLess]at h
 | [],_::_,_::_,_,_=>rfl
 |a::x,b::y,d::z,h,h'=>by
  simp only[Op.bytesLess,Bool.or_eq_true,decide_eq_true_eq,Bool.and_eq_true,beq_iff_eq]at h h' ⊢
  rcases h with h|⟨rfl,h⟩
  ·rcases h' with h'|⟨rfl,h'⟩
   ·exact .inl (UInt8.lt_trans h h')
   ·exact .inl h
  ·rcases h' with h'|⟨rfl,h'⟩
   ·exact .inl h'
   ·exact .inr ⟨rfl,Js x y z h h'⟩
def dB(a b:ByteArray):Int:=if Op.bytesLess a.toList b.toList then -1 else if Op.bytesLess b.toList a.toList then 1 else 0
theorem toList_inj{a b:ByteArray}(h:a.toList=b.toList):a=b:=by
 rw[ByteArray.toList_eq,ByteArray.toList_eq]at h;exact WideShapes.bytes_inj h
theorem oQ:yh dB where
 zero a b:=by
  unfold dB
  constructor
  ·intro h
   split at h
   ·omega
   ·split at h
    ·omega
    ·rename_i h1 h2
     exact toList_inj (Jr _ _ (by simpa using h1) (by simpa using h2))
  ·rintro rfl;simp[Jq]
 sS a b:=by
  unfold dB
  cases h1:Op.bytesLess a.toList b.toList<;>cases h2:Op.bytesLess b.toList a.toList<;>simp
  have:=Js _ _ _ h1 h2
  rw[Jq]at this;cases this
 trans a b d h1 h2:=by
  unfold dB at *
  have e1:Op.bytesLess a.toList b.toList=true:=by
   cases h:Op.bytesLess a.toList b.toList
   ·rw[h]at h1;cases h':Op.bytesLess b.toList a.toList<;>rw[h']at h1<;>simp at h1
   ·rfl
  have e2:Op.bytesLess b.toList d.toList=true:=by
   cases h:Op.bytesLess b.toList d.toList
   ·rw[h]at h2;cases h':Op.bytesLess d.toList b.toList<;>rw[h']at h2<;>simp at h2
   ·rfl
  rw[Js _ _ _ e1 e2];simp
def cmpL{α:Type}(c:α→α→Int):List α→List α→Int
 | [],[]=>0
 | [],_::_=>-1
 |_::_,[]=>1
 |a::x,b::y=>if c a b=0 then cmpL c x y else c a b
theorem Jt{α:Type}{c:α→α→Int}(h:yh c):yh (cmpL c) where
 zero a:=by
  induction a with
  |nil=>intro b;cases b<;>simp[cmpL]
  |cons a x ih=>
   intro b
   cases b with
   |nil=>simp[cmpL]
   |cons b y=>
    unfold cmpL
    by_cases e:c a b=0
    ·rw[if_pos e,ih];rw[h.zero]at e;simp[e]
    ·rw[if_neg e]
     constructor
     ·intro h';exact absurd h' e
     ·intro h';injection h' with h1 h2;exact absurd ((h.zero a b).2 h1) e
 sS a:=by
  induction a with
  |nil=>intro b;cases b<;>simp[cmpL]
  |cons a x ih=>
   intro b
   cases b with
   |nil=>simp[cmpL]
   |cons b y=>
    unfold cmpL
    rw[h.sS a b]
    by_cases e:c a b=0
    ·rw[if_pos e,if_pos (by omega),ih]
    ·rw[if_neg e,if_neg (by omega)]
 trans a:=by
  induction a with
  |nil=>intro b d;cases b<;>cases d<;>simp[cmpL]
  |cons a x ih=>
   intro b d
   cases b with
   |nil=>simp[cmpL]
   |cons b y=>
    cases d with
    |nil=>intro _ h2;simp[cmpL]at h2
    |cons d z=>
     unfold cmpL
     by_cases e:c a b=0
     ·rw[if_pos e]
      rw[h.zero]at e;subst e
      by_cases e2:c a d=0
      ·rw[if_pos e2,if_pos e2];exact ih y z
      ·rw[if_neg e2,if_neg e2];intro _ h2;exact h2
     ·rw[if_neg e]
      by_cases e2:c b d=0
      ·rw[if_pos e2]
       rw[h.zero]at e2;subst e2
       rw[if_neg e];intro h1 _;exact h1
      ·rw[if_neg e2]
       intro h1 h2
       have h3:=h.trans _ _ _ h1 h2
       rw[if_neg (by omega)];exact h3
def oh:List ByteArray→List ByteArray→Int:=cmpL dB
def fB(p q:aH):Int:=if dB p.aJ q.aJ=0 then oh p.parts q.parts else dB p.aJ q.aJ
theorem Ju:yh fB where
 zero p q:=by
  have h1:=oQ.zero p.aJ q.aJ
  have h2:=(Jt oQ).zero p.parts q.parts
  unfold fB
  by_cases e:dB p.aJ q.aJ=0
  ·rw[if_pos e];show cmpL dB p.parts q.parts=0↔_
   rw[h2]
   rw[h1]at e
   cases p;cases q;simp_all
  ·rw[if_neg e]
   constructor
   ·intro h;exact absurd h e
   ·rintro rfl;exact absurd (h1.2 rfl) e
 sS p q:=by
  unfold fB
  rw[oQ.sS p.aJ q.aJ]
  by_cases e:dB p.aJ q.aJ=0
  ·rw[if_pos e,if_pos (by omega)];exact(Jt oQ).sS _ _
  ·rw[if_neg e,if_neg (by omega)]
 trans p q t:=by
  unfold fB
  by_cases e:dB p.aJ q.aJ=0
  ·rw[if_pos e]
   rw[oQ.zero]at e;rw[e]
   by_cases e2:dB q.aJ t.aJ=0
   ·rw[if_pos e2,if_pos e2];exact(Jt oQ).trans _ _ _
   ·rw[if_neg e2,if_neg e2];intro _ h;exact h
  ·rw[if_neg e]
   by_cases e2:dB q.aJ t.aJ=0
   ·rw[if_pos e2]
    rw[oQ.zero]at e2;rw[←e2,if_neg e]
    intro h _;exact h
   ·rw[if_neg e2]
    intro h1 h2
    have h3:=oQ.trans _ _ _ h1 h2
    rw[if_neg (by omega)];exact h3
section
variable {α β:Type} {c:β→β→Int} (k:α→β)
def Sorted(c:β→β→Int)(k:α→β)(l:List α):Prop:=l.Pairwise fun a b=>c (k a) (k b)<0
def kH(c:β→β→Int)(k:α→β)(e:α):List α→List α
 | []=>[e]
 |d::l=>if c (k e) (k d)<0 then e::d::l else d::kH c k e l
theorem wR(e:α):∀l:List α,(kH c k e l).Perm (e::l)
 | []=>List.Perm.refl _
 |d::l=>by
  unfold kH
  split
  ·exact List.Perm.refl _
  ·exact((wR e l).cons d).trans (List.Perm.swap e d l)
theorem PW(h:yh c)(e:α):∀l:List α,Sorted c k l→(∀d∈l,k d≠k e)→Sorted c k (kH c k e l)
 | [],_,_=>by simp[kH,Sorted]
 |d::l,hs,hn=>by
  have hs':=List.pairwise_cons.1 hs
  unfold kH
  split
  ·rename_i hlt
   refine List.pairwise_cons.2 ⟨fun x hx=>?_,hs⟩
   rcases List.mem_cons.1 hx with rfl|hx
   ·exact hlt
   ·exact h.trans _ _ _ hlt (hs'.1 x hx)
  ·rename_i hge
   refine List.pairwise_cons.2 ⟨fun x hx=>?_,PW h e l hs'.2 (fun y hy=>hn y (by simp[hy]))⟩
   have hx':=(wR k e l).mem_iff.1 hx
   rcases List.mem_cons.1 hx' with rfl|hx
   ·have h0:c (k d) (k x)≠0:=fun e0=>hn d (by simp) ((h.zero _ _).1 e0)
    have h1:=h.sS (k d) (k x)
    omega
   ·exact hs'.1 x hx
theorem Jv(h:yh c):∀(l m:List α),Sorted c k l→Sorted c k m→l.Perm m→l=m
 | [],m,_,_,hp=>by simp[hp.symm.eq_nil]
 |a::l,[],_,_,hp=>by simpa using hp.eq_nil
 |a::l,b::m,hs,ht,hp=>by
  have hs':=List.pairwise_cons.1 hs
  have ht':=List.pairwise_cons.1 ht
  have e:a=b:=by
   have ha:a∈b::m:=hp.mem_iff.1 (by simp)
   have hb:b∈a::l:=hp.mem_iff.2 (by simp)
   rcases List.mem_cons.1 ha with e|ha
   ·exact e
   ·rcases List.mem_cons.1 hb with e|hb
    ·exact e.symm
    ·have h1:=ht'.1 a ha
     have h2:=hs'.1 b hb
     have h3:=h.sS (k a) (k b)
     omega
  subst e
  rw[Jv h l m hs'.2 ht'.2 (List.Perm.cons_inv hp)]
end
end Go.WW
namespace Go.WW
open Go.RowKit
structure But(S:Nat→Prop)(w w':World):Prop where
 os:w'.os=w.os
 tape:w'.tape=w.tape
 output:w'.output=w.output
 size:w.heap.size≤w'.heap.size
 block:∀k,k<w.heap.size→¬S k→w'.heap[k]?=w.heap[k]?
theorem But.refl(S:Nat→Prop)(w:World):But S w w:=⟨rfl,rfl,rfl,Nat.le_refl _,fun _ _ _=>rfl⟩
theorem But.trans{S:Nat→Prop}{a b c:World}(h:But S a b)(k:But S b c):But S a c:=
 ⟨k.os.trans h.os,k.tape.trans h.tape,k.output.trans h.output,Nat.le_trans h.size k.size,fun i hi hS=>(k.block i (Nat.lt_of_lt_of_le hi h.size) hS).trans (h.block i hi hS)⟩
theorem But.of_below{S:Nat→Prop}{w w':World}(h:Below w.heap.size w w'):But S w w':=⟨h.os,h.tape,h.output,h.size,fun k hk _=>h.block k hk⟩
theorem But.mono{S S':Nat→Prop}{w w':World}(h:But S w w')(hS:∀k,S k→S' k):But S' w w':=⟨h.os,h.tape,h.output,h.size,fun k hk hn=>h.block k hk (fun x=>hn (hS k x))⟩
theorem But.below{S:Nat→Prop}{w w':World}{n:Nat}(h:But S w w')(hn:n≤w.heap.size)(hS:∀k,S k→n≤k):Below n w w':=
 ⟨h.os,h.tape,h.output,h.size,fun k hk=>h.block k (Nat.lt_of_lt_of_le hk hn) (fun x=>absurd (hS k x) (by omega))⟩
structure PX(es:Array MapEntry)(clock:Nat)(m:List (ByteArray×Value)):Prop where
 dS:es.toList.map (fun e=>(e.key,e.val))=m.map (fun x=>(Value.string x.1,x.2))
 keys:(m.map (·.1)).Nodup
 born:∀e∈es.toList,e.born<clock
 once:(es.toList.map (·.born)).Nodup
def MapOf(w:World)(b:Nat)(m:List (ByteArray×Value)):Prop:=∃es clock,w.heap[b]?=some (.map es clock)∧PX es clock m
theorem MapOf.at{w w':World}{b:Nat}{m:List (ByteArray×Value)}(h:MapOf w b m)(e:w'.heap[b]?=w.heap[b]?):MapOf w' b m:=by
 obtain⟨es,clock,h1,h2⟩:=h
 exact⟨es,clock,e.trans h1,h2⟩
theorem MapOf.lt{w:World}{b:Nat}{m:List (ByteArray×Value)}(h:MapOf w b m):b<w.heap.size:=by
 obtain⟨es,clock,h1,_⟩:=h
 exact(Array.getElem?_eq_some_iff.1 h1).1
theorem PY(a b:ByteArray):Instr.sameNow .string (.string a) (.string b)=some (decide (a=b)):=by
 show some (a == b)=_
 congr 1
 by_cases h:a=b
 ·rw[decide_eq_true h,(MapKept.bytes_beq a b).2 h]
 ·rw[decide_eq_false h,←Bool.not_eq_true,MapKept.bytes_beq];exact h
theorem ES(k:ByteArray):∀(l:List MapEntry) (m:List (ByteArray×Value)) (i:Nat),l.map (fun e=>(e.key,e.val))=m.map (fun x=>(Value.string x.1,x.2))→k∉m.map (·.1)→Instr.findNow .string (.string k) l i=some none
 | [],_,_,_,_=>rfl
 |e::l,[],_,h,_=>by simp at h
 |e::l,x::m,i,h,hk=>by
  simp only[List.map_cons,List.cons.injEq,Prod.mk.injEq]at h
  unfold Instr.findNow
  have hne:¬k=x.1:=fun he=>hk (by simp[he])
  rw[h.1.1,PY,decide_eq_false hne]
  exact ES k l m (i+1) h.2 (fun hm=>hk (by simp only[List.map_cons,List.mem_cons];exact .inr hm))
theorem ET(k:ByteArray)(v:Value):∀(l:List MapEntry) (m:List (ByteArray×Value)) (i:Nat),l.map (fun e=>(e.key,e.val))=m.map (fun x=>(Value.string x.1,x.2))→(m.map (·.1)).Nodup→(k,v)∈m→∃j,Instr.findNow .string (.string k) l i=some (some (i+j,v))∧m[j]?=some (k,v)
 | [],m,_,h,_,hv=>by cases m with|nil=>simp at hv|cons=>simp at h
 |e::l,[],_,h,_,_=>by simp at h
 |e::l,x::m,i,h,hn,hv=>by
  simp only[List.map_cons,List.cons.injEq,Prod.mk.injEq]at h
  simp only[List.map_cons,List.nodup_cons]at hn
  unfold Instr.findNow
  rw[h.1.1,PY]
  by_cases he:k=x.1
  ·rw[decide_eq_true he]
   have hx:x=(k,v):=by
    rcases List.mem_cons.1 hv with e|hv
    ·exact e.symm
    ·exact absurd (List.mem_map.2 ⟨(k,v),hv,he⟩) hn.1
   subst hx
   exact⟨0,by rw[h.1.2];rfl,rfl⟩
  ·rw[decide_eq_false he]
   have hv':(k,v)∈m:=by
    rcases List.mem_cons.1 hv with e|hv
    ·exact absurd (by rw[←e]) he
    ·exact hv
   obtain⟨j,h1,h2⟩:=ET k v l m (i+1) h.2 hn.2 hv'
   exact⟨j+1,by rw[show i+(j+1)=i+1+j by omega];exact h1,by simpa using h2⟩
section
variable {P:Program} {w:World} {mty kt et:TypeId} {b:Nat} {m:List (ByteArray×Value)} {k:ByteArray}
theorem EU{v:Value}(c:Bool)(hm:P.underlying mty=some (.map kt et))(hd:P.underlying kt=some .string)(h:MapOf w b m)(hv:(k,v)∈m) :
  (Instr.lookup mty (.map (some b)) (.string k) c).run P w=.ok (if c then .tuple #[v,.bool true]else v) w:=by
 obtain⟨es,clock,hb,hr⟩:=h
 obtain⟨j,hf,_⟩:=ET k v _ _ 0 hr.dS hr.keys hv
 have hc:(Instr.checkKey es.isEmpty 10000 kt (.string k)).run P w=.ok () w:=MapKept.run_checkKey hd (by trivial) _ 9999
 simp[Instr.lookup,run_underlying hm,MapKept.run_getObj_map hb,hc,MapKept.run_findKey hd hf,Result.andThen]
theorem EW{z:Value}(c:Bool)(hm:P.underlying mty=some (.map kt et))(hd:P.underlying kt=some .string)(h:MapOf w b m)(hz:(zeroValue et).run P w=.ok z w)(hv:k∉m.map (·.1)) :
  (Instr.lookup mty (.map (some b)) (.string k) c).run P w=.ok (if c then .tuple #[z,.bool false]else z) w:=by
 obtain⟨es,clock,hb,hr⟩:=h
 have hf:=ES k _ _ 0 hr.dS hv
 have hc:(Instr.checkKey es.isEmpty 10000 kt (.string k)).run P w=.ok () w:=MapKept.run_checkKey hd (by trivial) _ 9999
 simp[Instr.lookup,run_underlying hm,MapKept.run_getObj_map hb,hc,MapKept.run_findKey hd hf,Result.andThen,hz]
def hasK(m:List (ByteArray×Value))(k:ByteArray):Bool:=m.any fun x=>decide (x.1=k)
theorem PZ(m:List (ByteArray×Value))(k:ByteArray):hasK m k=true↔k∈m.map (·.1):=by simp[hasK]
def ou(m:List (ByteArray×Value))(k:ByteArray)(v:Value):List (ByteArray×Value):=if hasK m k=true then m.map (fun x=>if x.1=k then(k,v)else x)else m++[(k,v)]
def mi(m:List (ByteArray×Value))(k:ByteArray):List (ByteArray×Value):=m.filter fun x=>decide (x.1≠k)
theorem BV{w:World}{b:Nat}(o:Obj):But (·=b) w (w.putObj b o):=
 ⟨rfl,rfl,rfl,by simp[World.putObj],fun k _ hn=>by simp only[World.putObj];rw[Array.getElem?_setIfInBounds];simp[Ne.symm (show k≠b from hn)]⟩
theorem aaw(l:List MapEntry):∀(m:List (ByteArray×Value)) (j:Nat) (v:Value),l.map (fun e=>(e.key,e.val))=m.map (fun x=>(Value.string x.1,x.2))→(m.map (·.1)).Nodup→∀k v0,m[j]?=some (k,v0)→
  (l.modify j fun e=>{e with key:=.string k,val:=v}).map (fun e=>(e.key,e.val))=(m.map (fun x=>if x.1=k then(k,v)else x)).map (fun x=>(Value.string x.1,x.2)):=by
 induction l with
 |nil=>intro m j v h;cases m with|nil=>simp|cons=>simp at h
 |cons e l ih=>
  intro m j v h hn k v0 hj
  cases m with
  |nil=>simp at h
  |cons x m=>
   simp only[List.map_cons,List.cons.injEq,Prod.mk.injEq]at h
   simp only[List.map_cons,List.nodup_cons]at hn
   cases j with
   |zero=>
    simp only[List.getElem?_cons_zero,Option.some.injEq]at hj
    subst hj
    have hm:m.map (fun x=>if x.1=k then(k,v)else x)=m:=by
     conv=>rhs;rw[←List.map_id m]
     refine List.map_congr_left fun y hy=>?_
     have:¬y.1=k:=fun e=>hn.1 (List.mem_map.2 ⟨y,hy,e⟩)
     simp[this]
    simp[hm,h.2]
   |succ j=>
    simp only[List.getElem?_cons_succ]at hj
    have hne:¬x.1=k:=fun e=>hn.1 (by
     have:=List.mem_of_getElem? hj
     exact List.mem_map.2 ⟨_,this,e.symm⟩)
    simp only[List.modify_succ_cons,List.map_cons,hne,if_false]
    rw[ih m j v h.2 hn.2 k v0 hj,h.1.1,h.1.2]
theorem aax{m:List (ByteArray×Value)}{k:ByteArray}{v:Value}:(m.map (fun x=>if x.1=k then(k,v)else x)).map (·.1)=m.map (·.1):=by
 rw[List.map_map]
 refine List.map_congr_left fun x _=>?_
 simp only[Function.comp]
 split
 ·rename_i h;exact h.symm
 ·rfl
theorem Am{v:Value}(hm:P.underlying mty=some (.map kt et))(hd:P.underlying kt=some .string)(h:MapOf w b m) :
  ∃w',(Instr.mapUpdate mty (.map (some b)) (.string k) v).run P w=.ok () w'∧MapOf w' b (ou m k v)∧But (·=b) w w'∧w'.heap.size=w.heap.size:=by
 obtain⟨es,clock,hb,hr⟩:=h
 have hlt:=(Array.getElem?_eq_some_iff.1 hb).1
 have hc:(Instr.checkKey false 10000 kt (.string k)).run P w=.ok () w:=MapKept.run_checkKey hd (by trivial) _ 9999
 by_cases hk:k∈m.map (·.1)
 ·obtain⟨⟨k',v0⟩,hx,rfl⟩:=List.mem_map.1 hk
  obtain⟨j,hf,hj⟩:=ET k' v0 _ _ 0 hr.dS hr.keys hx
  rw[Nat.zero_add]at hf
  have hjl:j<es.toList.length:=by
   have h1:=(List.getElem?_eq_some_iff.1 hj).1
   have h2:=congrArg List.length hr.dS
   simp only[List.length_map]at h2
   omega
  have hkey:es[j]?.map (·.key)=some (.string k'):=by
   have h2:=congrArg (fun l=>(l[j]?).map (·.1)) hr.dS
   simp only[List.getElem?_map,hj,Option.map_map]at h2
   rw[←Array.getElem?_toList]
   simpa[Function.comp]using h2
  have hks:(Instr.keyThatStays (((es[j]?).map (·.key)).getD (.string k')) (.string k')).run P w=.ok (.string k') w:=by
   rw[hkey];exact MapKept.run_keyThatStays (d:=.string) (by trivial)
  refine⟨w.putObj b (.map (es.modify j fun e=>{e with key:=.string k',val:=v}) clock),?_,⟨_,clock,World.putObj_heap_same hlt,?_⟩,BV _,by simp[World.putObj]⟩
  ·simp[Instr.mapUpdate,run_underlying hm,MapKept.run_getObj_map hb,hc,MapKept.run_findKey hd hf,hks,MapKept.run_setObj_map _ hb,Result.andThen,World.putObj]
  ·unfold ou
   rw[if_pos ((PZ _ _).2 hk)]
   refine⟨?_,by rw[aax];exact hr.keys,?_,?_⟩
   ·rw[Array.toList_modify];exact aaw _ _ _ _ hr.dS hr.keys k' v0 hj
   ·intro e he
    rw[Array.toList_modify]at he
    obtain⟨i,hi,rfl⟩:=List.mem_iff_getElem.1 he
    rw[List.getElem_modify]
    have hi':i<es.toList.length:=by simpa using hi
    split
    ·rename_i e;subst e;exact hr.born es.toList[j] (List.getElem_mem hi')
    ·exact hr.born _ (List.getElem_mem hi')
   ·have:(es.modify j fun e=>{e with key:=.string k',val:=v}).toList.map (·.born)=es.toList.map (·.born):=by
     rw[Array.toList_modify]
     refine List.ext_getElem (by simp) fun i h1 h2=>?_
     simp only[List.getElem_map,List.getElem_modify]
     split
     ·rename_i e;subst e;rfl
     ·rfl
    rw[this];exact hr.once
 ·have hf:=ES k _ _ 0 hr.dS hk
  refine⟨w.putObj b (.map (es.push {key:=.string k,val:=v,born:=clock}) (clock+1)),?_,⟨_,clock+1,World.putObj_heap_same hlt,?_⟩,BV _,by simp[World.putObj]⟩
  ·simp[Instr.mapUpdate,run_underlying hm,MapKept.run_getObj_map hb,hc,MapKept.run_findKey hd hf,MapKept.run_setObj_map _ hb,Result.andThen,World.putObj]
  ·unfold ou
   rw[if_neg (fun e=>hk ((PZ _ _).1 e))]
   refine⟨by simp[hr.dS],?_,?_,?_⟩
   ·rw[List.map_append]
    refine List.nodup_append.2 ⟨hr.keys,by simp,?_⟩
    intro a ha c hc e
    simp only[List.map_cons,List.map_nil,List.mem_singleton]at hc
    exact hk (by rw[←hc,←e];exact ha)
   ·intro e he
    simp only[Array.toList_push,List.mem_append,List.mem_singleton]at he
    rcases he with he|rfl
    ·have:=hr.born e he;omega
    ·exact Nat.lt_succ_self _
   ·simp only[Array.toList_push,List.map_append,List.map_cons,List.map_nil]
    refine List.nodup_append.2 ⟨hr.once,by simp,?_⟩
    intro a ha c hc e
    simp only[List.mem_singleton]at hc
    obtain⟨x,hx,rfl⟩:=List.mem_map.1 ha
    have:=hr.born x hx
    omega
theorem aay(l:List MapEntry):∀(m:List (ByteArray×Value)) (j:Nat),l.map (fun e=>(e.key,e.val))=m.map (fun x=>(Value.string x.1,x.2))→(m.map (·.1)).Nodup→∀k v0,m[j]?=some (k,v0)→
  (l.eraseIdx j).map (fun e=>(e.key,e.val))=(mi m k).map (fun x=>(Value.string x.1,x.2)):=by
 induction l with
 |nil=>intro m j h;cases m with|nil=>simp[mi]|cons=>simp at h
 |cons e l ih=>
  intro m j h hn k v0 hj
  cases m with
  |nil=>simp at h
  |cons x m=>
   simp only[List.map_cons,List.cons.injEq,Prod.mk.injEq]at h
   simp only[List.map_cons,List.nodup_cons]at hn
   cases j with
   |zero=>
    simp only[List.getElem?_cons_zero,Option.some.injEq]at hj
    subst hj
    have hm:mi ((k,v0)::m) k=m:=by
     unfold mi
     rw[List.filter_cons_of_neg (by simp)]
     refine List.filter_eq_self.2 fun y hy=>?_
     have:¬y.1=k:=fun e=>hn.1 (List.mem_map.2 ⟨y,hy,e⟩)
     simp[this]
    rw[hm];exact h.2
   |succ j=>
    simp only[List.getElem?_cons_succ]at hj
    have hne:¬x.1=k:=fun e=>hn.1 (by
     have:=List.mem_of_getElem? hj
     exact List.mem_map.2 ⟨_,this,e.symm⟩)
    have hd:mi (x::m) k=x::mi m k:=by unfold mi;rw[List.filter_cons_of_pos (by simp[hne])]
    rw[hd]
    simp only[List.eraseIdx_cons_succ,List.map_cons]
    rw[ih m j h.2 hn.2 k v0 hj,h.1.1,h.1.2]
theorem aaz{m:List (ByteArray×Value)}{k:ByteArray}(h:k∉m.map (·.1)):mi m k=m:=
 List.filter_eq_self.2 fun y hy=>by have:¬y.1=k:=fun e=>h (List.mem_map.2 ⟨y,hy,e⟩);simp[this]
theorem P5{ty:TypeId}{oU:Array TypeId}(ht:oU[0]?=some mty)(hm:P.underlying mty=some (.map kt et))(hd:P.underlying kt=some .string)(h:MapOf w b m) :
  ∃w',(Builtin.delete_ oU ty #[.map (some b),.string k]).run P w=.ok (.tuple #[]) w'∧MapOf w' b (mi m k)∧But (·=b) w w'∧w'.heap.size=w.heap.size:=by
 obtain⟨es,clock,hb,hr⟩:=h
 have hlt:=(Array.getElem?_eq_some_iff.1 hb).1
 have hc:(Instr.checkKey es.isEmpty 10000 kt (.string k)).run P w=.ok () w:=MapKept.run_checkKey hd (by trivial) _ 9999
 by_cases hk:k∈m.map (·.1)
 ·obtain⟨⟨k',v0⟩,hx,rfl⟩:=List.mem_map.1 hk
  obtain⟨j,hf,hj⟩:=ET k' v0 _ _ 0 hr.dS hr.keys hx
  rw[Nat.zero_add]at hf
  refine⟨w.putObj b (.map (es.eraseIdxIfInBounds j) clock),?_,⟨_,clock,World.putObj_heap_same hlt,?_⟩,BV _,by simp[World.putObj]⟩
  ·simp[Builtin.delete_,ht,run_underlying hm,MapKept.run_getObj_map hb,hc,MapKept.run_findKey hd hf,MapKept.run_setObj_map _ hb,Result.andThen,World.putObj]
  ·have ht:(es.eraseIdxIfInBounds j).toList=es.toList.eraseIdx j:=by simp
   refine⟨by rw[ht];exact aay _ _ _ hr.dS hr.keys k' v0 hj,?_,?_,?_⟩
   ·exact(List.filter_sublist.map _).nodup hr.keys
   ·intro e he;rw[ht]at he;exact hr.born e (List.mem_of_mem_eraseIdx he)
   ·rw[ht];exact((List.eraseIdx_sublist _ _).map _).nodup hr.once
 ·have hf:=ES k _ _ 0 hr.dS hk
  refine⟨w.putObj b (.map es clock),?_,⟨_,clock,World.putObj_heap_same hlt,by rw[aaz hk];exact hr⟩,BV _,by simp[World.putObj]⟩
  simp[Builtin.delete_,ht,run_underlying hm,MapKept.run_getObj_map hb,hc,MapKept.run_findKey hd hf,MapKept.run_setObj_map _ hb,Result.andThen,World.putObj]
theorem MapOf.len(h:MapOf w b m):∃es clock,w.heap[b]?=some (.map es clock)∧es.size=m.length:=by
 obtain⟨es,clock,hb,hr⟩:=h
 have h2:=congrArg List.length hr.dS
 simp only[List.length_map,Array.length_toList]at h2
 exact⟨es,clock,hb,h2⟩
end
end Go.WW
namespace Go.WW
open Go.RowKit
def oz(w:World)(i b:Nat)(m left:List (ByteArray×Value)):Prop:=
 ∃es clock seen c0,w.heap[i]?=some (.mapIter (some b) clock seen c0)∧w.heap[b]?=some (.map es clock)∧PX es clock m∧clock≤c0∧(leftOf es seen).toList.map (fun e=>(e.key,e.val))=left.map (fun x=>(Value.string x.1,x.2))
theorem oz.map{w:World}{i b:Nat}{m left:List (ByteArray×Value)}(h:oz w i b m left):MapOf w b m:=by
 obtain⟨es,clock,seen,c0,h1,h2,h3,h4⟩:=h
 exact⟨es,clock,h2,h3⟩
theorem oz.at{w w':World}{i b:Nat}{m left:List (ByteArray×Value)}(h:oz w i b m left)(e:w'.heap[i]?=w.heap[i]?)(e':w'.heap[b]?=w.heap[b]?):oz w' i b m left:=by
 obtain⟨es,clock,seen,c0,h1,h2,h3,h4⟩:=h
 exact⟨es,clock,seen,c0,e.trans h1,e'.trans h2,h3,h4⟩
theorem oz.lt{w:World}{i b:Nat}{m left:List (ByteArray×Value)}(h:oz w i b m left):i<w.heap.size:=by
 obtain⟨es,clock,seen,c0,h1,h2,h3,h4⟩:=h
 exact(Array.getElem?_eq_some_iff.1 h1).1
theorem filter_one(l:List MapEntry)(seen:Array Nat)(e:MapEntry)(A B:List MapEntry)(hn:(l.map (·.born)).Nodup)(h:l.filter (fun x=>!seen.contains x.born)=A++e::B):l.filter (fun x=>!(seen.push e.born).contains x.born)=A++B:=by
 have h1:l.filter (fun x=>!(seen.push e.born).contains x.born)=(l.filter (fun x=>!seen.contains x.born)).filter (fun x=>decide (x.born≠e.born)):=by
  rw[List.filter_filter]
  refine List.filter_congr fun x _=>?_
  simp[Bool.and_comm]
 rw[h1,h,List.filter_append,List.filter_cons_of_neg (by simp)]
 have hs:(A++e::B).Sublist l:=by rw[←h];exact List.filter_sublist
 have hn':=(hs.map (·.born)).nodup hn
 rw[List.map_append,List.map_cons]at hn'
 have hAB:=List.nodup_append.1 hn'
 rw[List.filter_eq_self.2,List.filter_eq_self.2]
 ·intro x hx
  have:=(List.nodup_cons.1 hAB.2.1).1
  simp only[ne_eq,decide_not,Bool.not_eq_eq_eq_not,Bool.not_true,decide_eq_false_iff_not]
  exact fun e'=>this (by rw[←e'];exact List.mem_map.2 ⟨x,hx,rfl⟩)
 ·intro x hx
  simp only[ne_eq,decide_not,Bool.not_eq_eq_eq_not,Bool.not_true,decide_eq_false_iff_not]
  exact fun e'=>hAB.2.2 _ (List.mem_map.2 ⟨x,hx,rfl⟩) _ (by simp) e'
section
variable {P:Program} {w:World} {i b:Nat} {m left:List (ByteArray×Value)}
theorem P6{mty kt et:TypeId}(hm:P.underlying mty=some (.map kt et))(h:MapOf w b m) :
  ∃w',(Instr.range mty (.map (some b))).run P w=.ok (.pointer (some ⟨w.heap.size,0,none⟩)) w'∧oz w' w.heap.size b m m∧Below w.heap.size w w'∧w'.heap.size=w.heap.size+1:=by
 obtain⟨es,clock,hb,hr⟩:=h
 have hlt:=(Array.getElem?_eq_some_iff.1 hb).1
 refine⟨w.alloc (.mapIter (some b) clock #[] clock),run_range_map w mty kt et b es clock hm hb,⟨es,clock,#[],clock,World.alloc_heap_new _ _,(Below.heap_alloc _ _ _ hlt).trans hb,hr,Nat.le_refl _,?_⟩,(Below.refl _ w).alloc (Nat.le_refl _) _,by simp⟩
 have:(leftOf es #[]).toList=es.toList:=by unfold leftOf;simp
 rw[this];exact hr.dS
theorem P7(ty:TypeId)(h:oz w i b m left) :
  (left=[]∧(Instr.next (.pointer (some ⟨i,0,none⟩)) false ty).run P w=.ok (.tuple #[.bool false]) w)∨
  ∃l1 x l2 w',left=l1++x::l2∧(Instr.next (.pointer (some ⟨i,0,none⟩)) false ty).run P w=.ok (.tuple #[.bool true,.string x.1,x.2]) w'∧(Instr.entry (.pointer (some ⟨i,0,none⟩))).run P w'=.ok (.tuple #[.string x.1,x.2]) w'∧oz w' i b m (l1++l2)∧But (·=i) w w'∧w'.heap.size=w.heap.size:=by
 obtain⟨es,clock,seen,c0,h1,h2,h3,h4,h5⟩:=h
 have hib:i≠b:=fun e=>by rw[e,h2]at h1;cases h1
 rcases run_next_at (P:=P) w ty i b clock c0 seen es clock h1 h2 h3.born h4 with⟨h0,hrun⟩|⟨e,he,w1,hw1,hrun⟩
 ·left
  refine⟨?_,hrun⟩
  have hl:=congrArg List.length h5
  simp only[List.length_map,Array.length_toList]at hl
  exact List.eq_nil_of_length_eq_zero (by omega)
 ·right
  obtain⟨A,B,hAB⟩:=List.append_of_mem he
  rw[hAB,List.map_append,List.map_cons]at h5
  obtain⟨l1,l',hl,e1,e2⟩:=List.map_eq_append_iff.1 h5.symm
  obtain⟨x,l2,rfl,e3,e4⟩:=List.map_eq_cons_iff.1 e2
  simp only[Prod.mk.injEq]at e3
  have hlt:=(Array.getElem?_eq_some_iff.1 h1).1
  have hheap:w1.heap=w.heap:=by rcases hw1 with rfl|rfl<;>rfl
  have hi':(ChangeMaps.setBlock w1 i (.mapIter (some b) clock (seen.push e.born) clock)).heap[i]?=some (.mapIter (some b) clock (seen.push e.born) clock):=by
   simp only[ChangeMaps.setBlock,hheap];rw[Array.getElem?_setIfInBounds];simp[hlt]
  have hb':(ChangeMaps.setBlock w1 i (.mapIter (some b) clock (seen.push e.born) clock)).heap[b]?=some (.map es clock):=by
   simp only[ChangeMaps.setBlock,hheap];rw[Array.getElem?_setIfInBounds];simp[hib,h2]
  have aaA:e∈es.toList:=by
   unfold leftOf at he
   rw[Array.toList_filter]at he
   exact(List.mem_filter.1 he).1
  refine⟨l1,x,l2,_,hl,by rw[e3.1,e3.2];exact hrun,?_,⟨es,clock,_,clock,hi',hb',h3,Nat.le_refl _,?_⟩,?_,by simp[ChangeMaps.setBlock,hheap]⟩
  ·rw[e3.1,e3.2];exact run_entry_at _ i b clock seen es clock e hi' hb' aaA h3.once
  ·unfold leftOf at hAB ⊢
   rw[Array.toList_filter]at hAB ⊢
   rw[filter_one _ _ _ _ _ h3.once hAB,List.map_append,List.map_append,e1,e4]
  ·have ht:w1.tape=w.tape∧w1.os=w.os∧w1.output=w.output:=by rcases hw1 with rfl|rfl<;>exact⟨rfl,rfl,rfl⟩
   refine⟨ht.2.1,ht.1,ht.2.2,by simp[ChangeMaps.setBlock,hheap],fun k hk hn=>?_⟩
   simp only[ChangeMaps.setBlock,hheap]
   rw[Array.getElem?_setIfInBounds]
   simp[Ne.symm (show k≠i from hn)]
end
end Go.WW
namespace Go.WW
open Go.RowKit
theorem But.drew{S:Nat→Prop}{a w:World}(h:But S a w):But S a w.drew:=⟨h.os,h.tape,h.output,h.size,h.block⟩
theorem But.cell{S:Nat→Prop}{w w':World}(h:But S w w'){b o:Nat}(hb:b<w.heap.size)(hn:¬S b):w'.cell? ⟨b,o,none⟩=w.cell? ⟨b,o,none⟩:=World.cell?_of_block (a:=⟨b,o,none⟩) (h.block b hb hn)
section
variable {P:Program} {ops:Array Oper} {S:World→Prop} {Q:Act→World→Prop}
def iJ(o:Oper):Bool:=looks o || (match o.op with | .nilCheck _=>true|_=>false)
theorem Jw{o:Oper}(h:iJ o=true)(ρ:Operand→Value)(w:World):(∃v w',(execOp ρ o).run P w=.ok (.value v) w')∨∃h w',(execOp ρ o).run P w=.halt h w':=by
 cases hl:looks o
 ·obtain⟨dst,op,type,pos,after,guard⟩:=o
  unfold iJ at h
  rw[hl]at h
  cases op<;>simp at h
  case nilCheck x=>
   simp only[execOp]
   split
   ·exact .inr ⟨_,_,rfl⟩
   ·exact .inr ⟨_,_,rfl⟩
   ·exact .inr ⟨_,_,rfl⟩
   ·split
    ·exact .inr ⟨_,_,rfl⟩
    ·simp only[Sem.run_bind]
     cases (program).run P w with
     |halt h w'=>exact .inr ⟨h,w',by simp⟩
     |ok p w1=>
      dsimp only[Result.andThen]
      cases (nilAhead (p.types.size+Made.depth) _ _ _).run P w1 with
      |halt h w'=>exact .inr ⟨h,w',by simp⟩
      |ok c w2=>
       dsimp only[Result.andThen]
       split
       ·exact .inr ⟨_,_,rfl⟩
       ·exact .inl ⟨_,_,rfl⟩
    ·exact .inl ⟨_,_,rfl⟩
   ·exact .inl ⟨_,_,rfl⟩
 ·exact BR hl ρ w
theorem bC{o:Oper}{rest:List Oper}{a:Act}{w:World}(hw:Region.wanted o (yielded ops a.tmps)=true)(hs:iJ o=true)
  (h:∀K:Act→Prop,(∀a',aG P ops iJ S Q rest a' w→K a')→o.quiet P a S K):aG P ops iJ S Q (o::rest) a w:=by
 rw[bF,if_pos hw,if_pos hs]
 obtain⟨v,hv,hh⟩:=h _ (fun _ x=>x)
 refine⟨v,fun w' hw'=>?_,hh⟩
 have:=hv w' hw'
 unfold Oper.quietAt at this
 rcases Jw (P:=P) hs a.eval w' with⟨u,w'',e⟩|⟨x,w'',e⟩
 ·rw[e]at this ⊢
  obtain⟨rfl,rfl⟩:=this
  rfl
 ·rw[e]at this
  exact this.elim
theorem bZ{o:Oper}{rest:List Oper}{a:Act}{w:World}(hw:Region.wanted o (yielded ops a.tmps)=true)(hs:iJ o=false)
  (h:∀K:Act→World→Prop,(∀a' w',S w'→aG P ops iJ S Q rest a' w'→K a' w')→o.wp P a w K never):aG P ops iJ S Q (o::rest) a w:=by
 rw[bF,if_pos hw,if_neg (by simp[hs])]
 exact h _ (fun _ _ x y=>⟨x,y⟩)
end
structure qI(S:Nat→Prop)(W:World) where
 w:World
 b:But S W w
instance {S:Nat→Prop} {W:World}:Nonempty (qI S W):=⟨⟨W,But.refl _ _⟩⟩
section
variable {S:Nat→Prop} {W:World} (x:qI S W) (b o:Nat) (h:b<W.heap.size) (hn:¬S b)
include h hn
theorem qI.cell:x.w.cell? ⟨b,o,none⟩=W.cell? ⟨b,o,none⟩:=x.b.cell h hn
theorem qI.frozen:x.w.frozen? ⟨b,o,none⟩=W.frozen? ⟨b,o,none⟩:=by
 have:=x.b.block b h hn
 simp[World.frozen?,this]
theorem qI.row(n:Nat):row? x.w b o n=row? W b o n:=fG (x.b.block b h hn) o n
end
attribute [go_sem] qI.cell qI.frozen qI.row
abbrev uU(S:Nat→Prop)(w:World):World→Prop:=fun w'=>∃x:qI S w,w'=x.w
theorem oV{P:Program}{id:Nat}{Q':Exit→Act→World→Prop}{a:Act}{W w:World}{l:List Oper}(S:Nat→Prop)(hW:But S W w)(hm:P.follows .mixedOrders=true)(hB:ny iJ l.toArray=true)
  (h:aG P l.toArray iJ (uU S W) (fun a' w'=>Q' .normal a' w') l a w.drew):(Code.region id l.toArray true).wp P Q' a w:=
 BQ (uU S W) iJ hm hB ⟨⟨w.drew,hW.drew⟩,rfl⟩ h
theorem fU{S:Nat→Prop}{W w:World}(h:But S W w):uU S W w:=⟨⟨w,h⟩,rfl⟩
theorem sU{P:Program}{id:Nat}{Q':Exit→Act→World→Prop}{a:Act}{W w:World}{l:List Oper}(hW:Below W.heap.size W w)(hm:P.follows .mixedOrders=true)(hB:ny iJ l.toArray=true)
  (h:∀w1,Below W.heap.size W w1→aG P l.toArray iJ (since W) (fun a' w'=>Q' .normal a' w') l a w1):(Code.region id l.toArray true).wp P Q' a w:=
 BQ (since W) iJ hm hB ⟨⟨w.drew,hW.drew⟩,rfl⟩ (h _ hW.drew)
def one(p:Nat):Nat→Prop:=fun k=>k=p
theorem bU{p k:Nat}(h:k≠p):¬one p k:=h
end Go.WW
namespace Go.WW
def aC(v lo hi:Int):Bool:=decide (lo≤v)&&decide (v≤hi)
theorem EX{v lo hi:Int}:aC v lo hi=true↔lo≤v∧v≤hi:=by simp[aC]
def jc(t:Int):Bool:=aC t 0 1099511627776
end Go.WW
namespace Go.Proofs.YtpfifochimkpfaaGreatDoor
open Go.RowKit Go.WW
theorem wS(v lo hi:Int)(w:World):Calls Tryz.prog 116 #[.int .i64 v,.int .i64 lo,.int .i64 hi] w fun e w'=>e=.returned (.bool (aC v lo hi))∧w=w':=by
 go_enter Tryz.func116,Tryz.ntmps116
 go_wp2
 all_goals go_ret
 all_goals exact⟨by first|(simp[aC, *];done)|(simp[aC];omega),rfl⟩
theorem wU(v lo hi:Int)(w:World):Calls Tryz.prog 128 #[.int .i64 v,.int .i64 lo,.int .i64 hi] w fun e w'=>e=.returned (.bool (aC v lo hi))∧w=w':=by
 go_enter Tryz.func128,Tryz.ntmps128
 go_wp2
 all_goals go_ret
 all_goals exact⟨by first|(simp[aC, *];done)|(simp[aC];omega),rfl⟩
theorem P8(v lo hi:Int)(w:World):Calls Tryz.prog 126 #[.int .i64 v,.int .i64 lo,.int .i64 hi] w fun e w'=>e=.returned (.bool (aC v lo hi))∧w=w':=by
 go_enter Tryz.func126,Tryz.ntmps126
 go_wp2
 all_goals go_ret
 all_goals exact⟨by first|(simp[aC, *];done)|(simp[aC];omega),rfl⟩
theorem qJ(v lo hi:Int)(w:World):Calls Tryz.prog 81 #[.int .i64 v,.int .i64 lo,.int .i64 hi] w fun e w'=>e=.returned (.bool (aC v lo hi))∧w=w':=by
 go_enter Tryz.func81,Tryz.ntmps81
 go_wp2
 all_goals go_ret
 all_goals exact⟨by first|(simp[aC, *];done)|(simp[aC];omega),rfl⟩
theorem EY(v:Int)(w:World):Calls Tryz.prog 34 #[.int .i64 v] w fun e w'=>e=.returned (.bool (jc v))∧w=w':=by
 go_enter Tryz.func34,Tryz.ntmps34
 go_wp2
 all_goals go_ret
 all_goals exact⟨by first|(simp[jc,aC, *];done)|(simp[jc,aC];omega),rfl⟩
theorem EZ(v:Int)(w:World):Calls Tryz.prog 11 #[.int .i64 v] w fun e w'=>e=.returned (.bool (jc v))∧w=w':=by
 go_enter Tryz.func11,Tryz.ntmps11
 go_wp2
 all_goals go_ret
 all_goals exact⟨by first|(simp[jc,aC, *];done)|(simp[jc,aC];omega),rfl⟩
theorem yj(c:Bool)(a b:Int)(w:World):Calls Tryz.prog 60 #[.bool c,.int .i64 a,.int .i64 b] w fun e w'=>e=.returned (.int .i64 (if c then a else b))∧w=w':=by
 cases c<;>
 ·go_enter Tryz.func60,Tryz.ntmps60
  go_wp2
  go_ret
  exact⟨rfl,rfl⟩
theorem iy(n:Int)(w:World):Calls Tryz.prog 16 #[.int .i64 n] w fun e w'=>e=.returned (.int .i64 n)∧w=w':=by
 go_enter Tryz.func16,Tryz.ntmps16
 go_wp2
 go_ret
 exact⟨rfl,rfl⟩
theorem pV(n e x:Int)(w:World):Calls Tryz.prog 23 #[.int .i64 n,.int .i64 e,.int .i64 x] w fun r w'=>r=.returned (.bool ((n == x)&&(e == 0)))∧w=w':=by
 by_cases h:n=x
 ·subst h
  go_enter Tryz.func23,Tryz.ntmps23
  go_wp2_with (go_at_call 16;refine(iy _ _).mono ?_;rintro e w' ⟨rfl,rfl⟩)
  go_ret
  exact⟨by simp,rfl⟩
 ·have h':(n == x)=false:=by simp[h]
  go_enter Tryz.func23,Tryz.ntmps23
  go_wp2_with (go_at_call 16;refine(iy _ _).mono ?_;rintro e w' ⟨rfl,rfl⟩)
  go_ret
  exact⟨by simp[h'],rfl⟩
end Go.Proofs.YtpfifochimkpfaaGreatDoor
