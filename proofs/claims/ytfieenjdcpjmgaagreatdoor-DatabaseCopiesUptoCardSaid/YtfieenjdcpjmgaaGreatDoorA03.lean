/- A part of the proof. -/
import Derived.Test.YtfieenjdcpjmgaaGreatDoorA02
import Derived.Test.YtfieenjdcpjmgaaGreatDoorProg
import Derived.Lib.Strings
import Derived.Lib.Slices
import Derived.Lib.Walk
import Derived.Lib.Bytealg
import Derived.RangeFuncNested
import Derived.RangeFuncBound
import Derived.RangeFuncCalls
import Derived.RangeFuncLeaves
import Derived.Shelf.Abstract
import Derived.Shelf.RegionOpen
import Derived.OwnWalkIn
import Derived.TacticsInMore
import Derived.LoopNIn
import Derived.LoopIn
set_option maxRecDepth 100000
set_option maxHeartbeats 2000000
namespace Go.WW
open Go.RowKit
def lim:Nat:=4294967000
section
variable (w:World)
def aV(k:Nat)(a:Option Addr)(n:Nat)(R:Nat→Array Value→Prop):Prop:=
 n≤lim∧∀i,i<n→∃b o cs,a=some ⟨b,o,none⟩∧row? w b (o+i*k) k=some cs∧R i cs
def dU(a:Option Addr)(n:Nat)(R:Nat→Value→Prop):Prop:=
 n≤lim∧∀i,i<n→∃b o v,a=some ⟨b,o,none⟩∧w.cell? ⟨b,o+i,none⟩=some v∧R i v
def kC(a:Option Addr)(l:List ByteArray):Prop:=dU w a l.length fun i v=>∃s,l[i]?=some s∧v=.string s∧s.size≤lim
def BytesAt(a:Option Addr)(l:List UInt8):Prop:=dU w a l.length fun i v=>∃c,l[i]?=some c∧v=.int .u8 c.toNat
def pR(a:Option Addr)(l:List Int):Prop:=dU w a l.length fun i v=>∃c,l[i]?=some c∧v=.int .i64 c
def qI(a:Option Addr)(l:List Bool):Prop:=dU w a l.length fun i v=>∃c,l[i]?=some c∧v=.bool c
def bz(s:Sl)(p:az):Prop:=kC w s.a p.parts∧p.aF.size≤lim
def fF(a:Option Addr)(l:List az):Prop:=aV w 2 a l.length fun i cs=>∃p s,l[i]?=some p∧cs=ai s p∧bz w s p
def kD(s:Sl)(k:Key):Prop:=BytesAt w s.a k.bytes
def kP(a:Option Addr)(l:List Key):Prop:=aV w 3 a l.length fun i cs=>∃k s,l[i]?=some k∧cs=bW s k∧kD w s k
def jq(s:Sl)(k:bn):Prop:=kP w s.a k.keys∧k.df.size≤lim
def mg(a:Option Addr)(l:List bn):Prop:=aV w 5 a l.length fun i cs=>∃k s,l[i]?=some k∧cs=aZ s k∧jq w s k
def fG(a:Option Addr)(l:List (List UInt8)):Prop:=dU w a l.length fun i v=>∃x,∃s:Sl,l[i]?=some x∧v=.slice s.a x.length s.cap∧BytesAt w s.a x
structure bJ(r:aN)(d:Entry):Prop where
 name:bz w r.parts d.name
 aliases:fF w r.aliases.a d.aliases
 keys:mg w r.keys.a d.keys
 targets:fF w r.targets.a d.targets
 bu:fF w r.bu.a d.bu
 history:fG w r.history.a d.history
 aO:d.aO.size≤lim
 attrs:0≤d.attrs∧d.attrs≤4294967295
end
section
variable {w w':World} (h:Below w.heap.size w w')
include h
theorem aV.later{k:Nat}{a:Option Addr}{n:Nat}{R R':Nat→Array Value→Prop}(hR:∀i cs,R i cs→R' i cs)(x:aV w k a n R):aV w' k a n R':=by
 refine⟨x.1,fun i hi=>?_⟩
 obtain⟨b,o,cs,ha,hr,hR1⟩:=x.2 i hi
 exact⟨b,o,cs,ha,by rw[ig (h.block b (gG hr))];exact hr,hR i cs hR1⟩
theorem dU.later{a:Option Addr}{n:Nat}{R R':Nat→Value→Prop}(hR:∀i cs,R i cs→R' i cs)(x:dU w a n R):dU w' a n R':=by
 refine⟨x.1,fun i hi=>?_⟩
 obtain⟨b,o,cs,ha,hr,hR1⟩:=x.2 i hi
 exact⟨b,o,cs,ha,by rw[h.cell (World.block_lt_of_cell? w _ hr)];exact hr,hR i cs hR1⟩
theorem kC.later{a:Option Addr}{l:List ByteArray}(x:kC w a l):kC w' a l:=dU.later h (fun _ _ y=>y) x
theorem BytesAt.later{a:Option Addr}{l:List UInt8}(x:BytesAt w a l):BytesAt w' a l:=dU.later h (fun _ _ y=>y) x
theorem pR.later{a:Option Addr}{l:List Int}(x:pR w a l):pR w' a l:=dU.later h (fun _ _ y=>y) x
theorem qI.later{a:Option Addr}{l:List Bool}(x:qI w a l):qI w' a l:=dU.later h (fun _ _ y=>y) x
theorem bz.later{s:Sl}{p:az}(x:bz w s p):bz w' s p:=⟨x.1.later h,x.2⟩
theorem fF.later{a:Option Addr}{l:List az}(x:fF w a l):fF w' a l:=aV.later h (fun _ _ ⟨p,s,y1,y2,y3⟩=>⟨p,s,y1,y2,y3.later h⟩) x
theorem kD.later{s:Sl}{k:Key}(x:kD w s k):kD w' s k:=BytesAt.later h x
theorem kP.later{a:Option Addr}{l:List Key}(x:kP w a l):kP w' a l:=aV.later h (fun _ _ ⟨p,s,y1,y2,y3⟩=>⟨p,s,y1,y2,y3.later h⟩) x
theorem jq.later{s:Sl}{k:bn}(x:jq w s k):jq w' s k:=⟨x.1.later h,x.2⟩
theorem mg.later{a:Option Addr}{l:List bn}(x:mg w a l):mg w' a l:=aV.later h (fun _ _ ⟨p,s,y1,y2,y3⟩=>⟨p,s,y1,y2,y3.later h⟩) x
theorem fG.later{a:Option Addr}{l:List (List UInt8)}(x:fG w a l):fG w' a l:=dU.later h (fun _ _ ⟨p,s,y1,y2,y3⟩=>⟨p,s,y1,y2,y3.later h⟩) x
theorem bJ.later{r:aN}{d:Entry}(x:bJ w r d):bJ w' r d:=
 ⟨x.name.later h,x.aliases.later h,x.keys.later h,x.targets.later h,x.bu.later h,x.history.later h,x.aO,x.attrs⟩
end
section
variable {w:World} {a:Option Addr}
theorem kC.get{l:List ByteArray}(x:kC w a l)(i:Nat)(h:i<l.length):∃b o,a=some ⟨b,o,none⟩∧w.cell? ⟨b,o+i,none⟩=some (.string l[i])∧l[i].size≤lim:=by
 obtain⟨b,o,v,h1,h2,s,h3,rfl,h4⟩:=x.2 i h
 rw[List.getElem?_eq_getElem h]at h3;cases h3
 exact⟨b,o,h1,h2,h4⟩
theorem BytesAt.get{l:List UInt8}(x:BytesAt w a l)(i:Nat)(h:i<l.length):∃b o,a=some ⟨b,o,none⟩∧w.cell? ⟨b,o+i,none⟩=some (.int .u8 l[i].toNat):=by
 obtain⟨b,o,v,h1,h2,s,h3,rfl⟩:=x.2 i h
 rw[List.getElem?_eq_getElem h]at h3;cases h3
 exact⟨b,o,h1,h2⟩
theorem pR.get{l:List Int}(x:pR w a l)(i:Nat)(h:i<l.length):∃b o,a=some ⟨b,o,none⟩∧w.cell? ⟨b,o+i,none⟩=some (.int .i64 l[i]):=by
 obtain⟨b,o,v,h1,h2,s,h3,rfl⟩:=x.2 i h
 rw[List.getElem?_eq_getElem h]at h3;cases h3
 exact⟨b,o,h1,h2⟩
theorem qI.get{l:List Bool}(x:qI w a l)(i:Nat)(h:i<l.length):∃b o,a=some ⟨b,o,none⟩∧w.cell? ⟨b,o+i,none⟩=some (.bool l[i]):=by
 obtain⟨b,o,v,h1,h2,s,h3,rfl⟩:=x.2 i h
 rw[List.getElem?_eq_getElem h]at h3;cases h3
 exact⟨b,o,h1,h2⟩
theorem fF.get{l:List az}(x:fF w a l)(i:Nat)(h:i<l.length):∃b o s,a=some ⟨b,o,none⟩∧row? w b (o+i*2) 2=some (ai s l[i])∧bz w s l[i]:=by
 obtain⟨b,o,v,h1,h2,p,s,h3,rfl,h4⟩:=x.2 i h
 rw[List.getElem?_eq_getElem h]at h3;cases h3
 exact⟨b,o,s,h1,h2,h4⟩
theorem kP.get{l:List Key}(x:kP w a l)(i:Nat)(h:i<l.length):∃b o s,a=some ⟨b,o,none⟩∧row? w b (o+i*3) 3=some (bW s l[i])∧kD w s l[i]:=by
 obtain⟨b,o,v,h1,h2,p,s,h3,rfl,h4⟩:=x.2 i h
 rw[List.getElem?_eq_getElem h]at h3;cases h3
 exact⟨b,o,s,h1,h2,h4⟩
theorem mg.get{l:List bn}(x:mg w a l)(i:Nat)(h:i<l.length):∃b o s,a=some ⟨b,o,none⟩∧row? w b (o+i*5) 5=some (aZ s l[i])∧jq w s l[i]:=by
 obtain⟨b,o,v,h1,h2,p,s,h3,rfl,h4⟩:=x.2 i h
 rw[List.getElem?_eq_getElem h]at h3;cases h3
 exact⟨b,o,s,h1,h2,h4⟩
theorem fG.get{l:List (List UInt8)}(x:fG w a l)(i:Nat)(h:i<l.length):∃b o,∃s:Sl,a=some ⟨b,o,none⟩∧w.cell? ⟨b,o+i,none⟩=some (.slice s.a l[i].length s.cap)∧BytesAt w s.a l[i]:=by
 obtain⟨b,o,v,h1,h2,p,s,h3,rfl,h4⟩:=x.2 i h
 rw[List.getElem?_eq_getElem h]at h3;cases h3
 exact⟨b,o,s,h1,h2,h4⟩
end
theorem aV.addr{w:World}{k n:Nat}{a:Option Addr}{R:Nat→Array Value→Prop}(x:aV w k a n R):n=0∨∃b o,a=some ⟨b,o,none⟩∧b<w.heap.size:=by
 rcases Nat.eq_zero_or_pos n with h|h
 ·exact .inl h
 ·obtain⟨b,o,cs,ha,hr,_⟩:=x.2 0 h
  exact .inr ⟨b,o,ha,gG hr⟩
theorem dU.addr{w:World}{n:Nat}{a:Option Addr}{R:Nat→Value→Prop}(x:dU w a n R):n=0∨∃b o,a=some ⟨b,o,none⟩∧b<w.heap.size:=by
 rcases Nat.eq_zero_or_pos n with h|h
 ·exact .inl h
 ·obtain⟨b,o,v,ha,hr,_⟩:=x.2 0 h
  exact .inr ⟨b,o,ha,World.block_lt_of_cell? w _ hr⟩
theorem kC.at{w:World}{b o:Nat}{l:List ByteArray}(x:kC w (some ⟨b,o,none⟩) l)(i:Nat)(h:i<l.length):w.cell? ⟨b,o+i,none⟩=some (.string l[i])∧l[i].size≤lim:=by
 obtain⟨b',o',ha,hc,hs⟩:=x.get i h;cases ha;exact⟨hc,hs⟩
theorem BytesAt.at{w:World}{b o:Nat}{l:List UInt8}(x:BytesAt w (some ⟨b,o,none⟩) l)(i:Nat)(h:i<l.length):w.cell? ⟨b,o+i,none⟩=some (.int .u8 l[i].toNat):=by
 obtain⟨b',o',ha,hc⟩:=x.get i h;cases ha;exact hc
theorem pR.at{w:World}{b o:Nat}{l:List Int}(x:pR w (some ⟨b,o,none⟩) l)(i:Nat)(h:i<l.length):w.cell? ⟨b,o+i,none⟩=some (.int .i64 l[i]):=by
 obtain⟨b',o',ha,hc⟩:=x.get i h;cases ha;exact hc
theorem qI.at{w:World}{b o:Nat}{l:List Bool}(x:qI w (some ⟨b,o,none⟩) l)(i:Nat)(h:i<l.length):w.cell? ⟨b,o+i,none⟩=some (.bool l[i]):=by
 obtain⟨b',o',ha,hc⟩:=x.get i h;cases ha;exact hc
theorem fF.at{w:World}{b o:Nat}{l:List az}(x:fF w (some ⟨b,o,none⟩) l)(i:Nat)(h:i<l.length):∃s,row? w b (o+i*2) 2=some (ai s l[i])∧bz w s l[i]:=by
 obtain⟨b',o',s,ha,hc⟩:=x.get i h;cases ha;exact⟨s,hc⟩
theorem kP.at{w:World}{b o:Nat}{l:List Key}(x:kP w (some ⟨b,o,none⟩) l)(i:Nat)(h:i<l.length):∃s,row? w b (o+i*3) 3=some (bW s l[i])∧kD w s l[i]:=by
 obtain⟨b',o',s,ha,hc⟩:=x.get i h;cases ha;exact⟨s,hc⟩
theorem mg.at{w:World}{b o:Nat}{l:List bn}(x:mg w (some ⟨b,o,none⟩) l)(i:Nat)(h:i<l.length):∃s,row? w b (o+i*5) 5=some (aZ s l[i])∧jq w s l[i]:=by
 obtain⟨b',o',s,ha,hc⟩:=x.get i h;cases ha;exact⟨s,hc⟩
theorem fG.at{w:World}{b o:Nat}{l:List (List UInt8)}(x:fG w (some ⟨b,o,none⟩) l)(i:Nat)(h:i<l.length):∃s:Sl,w.cell? ⟨b,o+i,none⟩=some (.slice s.a l[i].length s.cap)∧BytesAt w s.a l[i]:=by
 obtain⟨b',o',s,ha,hc⟩:=x.get i h;cases ha;exact⟨s,hc⟩
end Go.WW
namespace Go.Proofs.YtfieenjdcpjmgaaGreatDoor
open Go.RowKit Go.WW
def jf(T:TypeId)(parts:Array (Nat×Value)):Sem Next:=do pure (.value (←Instr.build T parts))
theorem abC(w:World)(b o:Nat):(jS 40 (.pointer (some ⟨b,o,none⟩))).run Tryz.prog w=qE Tryz.prog 40 w b o (row? w b o 2):=uM Tryz.underlying40 rfl (by kernel_rfl) w b o
theorem abD(ρ:Operand→Value)(dst:Option Tmp)(x:Operand)(ty:TypeId)(pos:String)(after:Array Edge)(guard:Option (Nat×Bool)):execOp ρ {dst,op:=.load 40 x,type:=ty,pos,after,guard}=jS 40 (ρ x):=rfl
attribute [go_sem] abC
attribute [go_sem ↓] abD
theorem abE(w:World)(b o:Nat):(jS 69 (.pointer (some ⟨b,o,none⟩))).run Tryz.prog w=qE Tryz.prog 69 w b o (row? w b o 3):=uM Tryz.underlying69 rfl (by kernel_rfl) w b o
theorem abG(ρ:Operand→Value)(dst:Option Tmp)(x:Operand)(ty:TypeId)(pos:String)(after:Array Edge)(guard:Option (Nat×Bool)):execOp ρ {dst,op:=.load 69 x,type:=ty,pos,after,guard}=jS 69 (ρ x):=rfl
attribute [go_sem] abE
attribute [go_sem ↓] abG
theorem abH(w:World)(b o:Nat):(jS 67 (.pointer (some ⟨b,o,none⟩))).run Tryz.prog w=qE Tryz.prog 67 w b o (row? w b o 5):=uM Tryz.underlying67 rfl (by kernel_rfl) w b o
theorem abI(ρ:Operand→Value)(dst:Option Tmp)(x:Operand)(ty:TypeId)(pos:String)(after:Array Edge)(guard:Option (Nat×Bool)):execOp ρ {dst,op:=.load 67 x,type:=ty,pos,after,guard}=jS 67 (ρ x):=rfl
attribute [go_sem] abH
attribute [go_sem ↓] abI
theorem abJ(w:World)(b o:Nat):(jS 47 (.pointer (some ⟨b,o,none⟩))).run Tryz.prog w=qE Tryz.prog 47 w b o (row? w b o 17):=uM Tryz.underlying47 rfl (by kernel_rfl) w b o
theorem abK(ρ:Operand→Value)(dst:Option Tmp)(x:Operand)(ty:TypeId)(pos:String)(after:Array Edge)(guard:Option (Nat×Bool)):execOp ρ {dst,op:=.load 47 x,type:=ty,pos,after,guard}=jS 47 (ρ x):=rfl
attribute [go_sem] abJ
attribute [go_sem ↓] abK
theorem abL(w:World)(b o:Nat):(jS 50 (.pointer (some ⟨b,o,none⟩))).run Tryz.prog w=qE Tryz.prog 50 w b o (row? w b o 10):=uM Tryz.underlying50 rfl (by kernel_rfl) w b o
theorem abM(ρ:Operand→Value)(dst:Option Tmp)(x:Operand)(ty:TypeId)(pos:String)(after:Array Edge)(guard:Option (Nat×Bool)):execOp ρ {dst,op:=.load 50 x,type:=ty,pos,after,guard}=jS 50 (ρ x):=rfl
attribute [go_sem] abL
attribute [go_sem ↓] abM
theorem Qy(w:World)(b o:Nat)(cs:Array Value)(hn:cs.size=2)(h1:dG cs=true):(kN 40 (.pointer (some ⟨b,o,none⟩)) (.agg cs)).run Tryz.prog w=sJ Tryz.prog 40 w b o cs (aQ w b o 2):=wC (by kernel_rfl) w b o cs hn h1
theorem abN(ρ:Operand→Value)(dst:Option Tmp)(x y:Operand)(ty:TypeId)(pos:String)(after:Array Edge)(guard:Option (Nat×Bool)):execOp ρ {dst,op:=.store 40 x y,type:=ty,pos,after,guard}=kN 40 (ρ x) (ρ y):=rfl
attribute [go_sem] Qy
attribute [go_sem ↓] abN
theorem abO(w:World)(b o:Nat)(cs:Array Value)(hn:cs.size=3)(h1:dG cs=true):(kN 69 (.pointer (some ⟨b,o,none⟩)) (.agg cs)).run Tryz.prog w=sJ Tryz.prog 69 w b o cs (aQ w b o 3):=wC (by kernel_rfl) w b o cs hn h1
theorem abP(ρ:Operand→Value)(dst:Option Tmp)(x y:Operand)(ty:TypeId)(pos:String)(after:Array Edge)(guard:Option (Nat×Bool)):execOp ρ {dst,op:=.store 69 x y,type:=ty,pos,after,guard}=kN 69 (ρ x) (ρ y):=rfl
attribute [go_sem] abO
attribute [go_sem ↓] abP
theorem abQ(w:World)(b o:Nat)(cs:Array Value)(hn:cs.size=5)(h1:dG cs=true):(kN 67 (.pointer (some ⟨b,o,none⟩)) (.agg cs)).run Tryz.prog w=sJ Tryz.prog 67 w b o cs (aQ w b o 5):=wC (by kernel_rfl) w b o cs hn h1
theorem abR(ρ:Operand→Value)(dst:Option Tmp)(x y:Operand)(ty:TypeId)(pos:String)(after:Array Edge)(guard:Option (Nat×Bool)):execOp ρ {dst,op:=.store 67 x y,type:=ty,pos,after,guard}=kN 67 (ρ x) (ρ y):=rfl
attribute [go_sem] abQ
attribute [go_sem ↓] abR
theorem abS(w:World)(b o:Nat)(cs:Array Value)(hn:cs.size=17)(h1:dG cs=true):(kN 47 (.pointer (some ⟨b,o,none⟩)) (.agg cs)).run Tryz.prog w=sJ Tryz.prog 47 w b o cs (aQ w b o 17):=wC (by kernel_rfl) w b o cs hn h1
theorem abT(ρ:Operand→Value)(dst:Option Tmp)(x y:Operand)(ty:TypeId)(pos:String)(after:Array Edge)(guard:Option (Nat×Bool)):execOp ρ {dst,op:=.store 47 x y,type:=ty,pos,after,guard}=kN 47 (ρ x) (ρ y):=rfl
attribute [go_sem] abS
attribute [go_sem ↓] abT
theorem abU(w:World)(b o:Nat)(cs:Array Value)(hn:cs.size=10)(h1:dG cs=true):(kN 50 (.pointer (some ⟨b,o,none⟩)) (.agg cs)).run Tryz.prog w=sJ Tryz.prog 50 w b o cs (aQ w b o 10):=wC (by kernel_rfl) w b o cs hn h1
theorem abV(ρ:Operand→Value)(dst:Option Tmp)(x y:Operand)(ty:TypeId)(pos:String)(after:Array Edge)(guard:Option (Nat×Bool)):execOp ρ {dst,op:=.store 50 x y,type:=ty,pos,after,guard}=kN 50 (ρ x) (ρ y):=rfl
attribute [go_sem] abU
attribute [go_sem ↓] abV
end Go.Proofs.YtfieenjdcpjmgaaGreatDoor
namespace Go.Proofs
theorem Tryz.stringslite_IndexByte(s:ByteArray)(c:Int)(w:World) :
  Calls Tryz.prog 288 #[.string s,.int .u8 c] w fun e w'=>e=.returned (.int .i64 (Lib.indexByte s.data.toList c.toNat.toUInt8))∧w'=w:=by
 go_enter Tryz.func288,Tryz.ntmps288
 go_wp2
 rw[run_callFunc_extern Tryz.func350 (by kernel_rfl) (by kernel_rfl) (by kernel_rfl) (e:=Extern.BytealgIndexByte.indexByte) (by kernel_rfl),Lib.run_indexByteString]
 simp only[Result.andThen]
 rw[Oper.upon_value]
 go_wp2
 go_ret
 exact⟨rfl,rfl⟩
theorem Tryz.stringslite_Index_one(s:ByteArray)(c:UInt8)(w:World) :
  Calls Tryz.prog 222 #[.string s,.string ⟨#[c]⟩] w fun e w'=>e=.returned (.int .i64 (Lib.indexByte s.data.toList c))∧w'=w:=by
 go_enter Tryz.func222,Tryz.ntmps222
 go_wp2_with (go_at_call 288;refine(Tryz.stringslite_IndexByte _ _ _).mono ?_;rintro e w' ⟨rfl,rfl⟩)
 ·have h:([c] == s.toList)=true:=by assumption
  go_ret
  refine⟨?_,rfl⟩
  have e:s.data.toList=[c]:=by rw[←Lib.toList_data];exact(beq_iff_eq.1 h).symm
  rw[e]
  simp[Lib.indexByte]
 ·go_ret
  exact⟨rfl,rfl⟩
theorem Tryz.strings_Index_one(s:ByteArray)(c:UInt8)(w:World) :
  Calls Tryz.prog 212 #[.string s,.string ⟨#[c]⟩] w fun e w'=>e=.returned (.int .i64 (Lib.indexByte s.data.toList c))∧w'=w:=by
 go_enter Tryz.func212,Tryz.ntmps212
 go_wp2_with (go_at_call 222;refine(Tryz.stringslite_Index_one _ _ _).mono ?_;rintro e w' ⟨rfl,rfl⟩)
 go_ret
 exact⟨rfl,rfl⟩
end Go.Proofs
namespace Go.WW
open Go.RowKit
def Qz{α:Type}(F:Fence)(n:Nat)(P:Program)(g:Nat)(lb:Array Value)(encs:α→Array Value)(bs B:Nat)(ok:α→Prop)(S Sp:List α→Prop)(w:World):Prop:=
 ∀(l:Nat) (J Jx:List α→World→Prop) (W:World),Below B w W→
  (∀pre W1 v,J pre W1→J pre (W1.setCell ⟨bs,0,none⟩ v))→
  (∀pre x W1,ok x→J pre W1→YieldAt F (n-1) P l (encs x) W1 fun e W'=>
   (e=.returned (.bool true)∧J (pre++[x]) W'∧Below B W1 W')∨(e=.returned (.bool false)∧Jx (pre++[x]) W'))→
  J [] W→
  CallsIn F n P g (#[.func (.yield l) #[] #[]]++lb) W fun e W'=>(∃v,e=.returned v)∧((∃xs,S xs∧J xs W')∨(∃pre,Sp pre∧Jx pre W'))
def QC{α:Type}(B:Nat)(I Ix:List α→World→Prop)(xs:List α)(W:World):Exit→Act→World→Prop
 | .normal,_,W'=>KeepsOthers W W'∧Below B W W'∧I xs W'
 | .ret,_,W'=>KeepsOthers W W'∧Ix xs W'
 |_,_,_=>False
variable {F:Fence} {n:Nat} {P:Program}
theorem abW{α:Type}{g:Operand}{ps:Array Tmp}{assign body:Code}{Q:Exit→Act→World→Prop}{a:Act}{w:World}
  (hro:F.round=none) (h1:1≤n) {gf:Nat} {lb:Array Value} (hg:a.eval g=.func (.func gf) #[] lb) (hFg:F.fn gf) (eg:∀args w,(callFunc gf args).run P w=.ok (.enter gf args) w)
  {encs:α→Array Value} {bs:Nat} {ok:α→Prop} {S Sp:List α→Prop} (hseq:Qz F (n-1) P gf lb encs bs w.heap.size ok S Sp w) (hbs:bs<w.heap.size) (hps:∀x,(encs x).size=ps.size)
  (I Ix:List α→World→Prop) (hI:OwnFrom w.heap.size I) (hIs:∀s W v,I s W→I s (W.setCell ⟨bs,0,none⟩ v)) (hIx:OwnFrom w.heap.size Ix) (h0:I [] w) (a₁:α→Act)
  (hassign:∀(l:Nat) (x:α) (W:World) (K:Act→World→Prop),K (a₁ x) W→
   assign.wpIn (F.inRound l) (n-1-1) P (Exit.then K (fun _ _ _=>False)) {tmps:=(ps.zip (encs x)).foldl (fun t (p,v)=>t.setIfInBounds p v) a.tmps,defers:=[]} W)
  (hbody:∀(l:Nat) (pre:List α) (x:α) (W:World),ok x→I pre W→body.wpIn (F.inRound l) (n-1-1) P (QC w.heap.size I Ix (pre++[x]) W) (a₁ x) W)
  (hdone:∀(D:Nat) (xs:List α) (W:World),w.heap.size≤D→S xs→I xs W→W.heap[D]?=some (.deferred (some []))→Q .normal {a with defers:={target:=.collected D,args:=#[]}::a.defers} W)
  (hstop:∀(D:Nat) (pre:List α) (W:World),w.heap.size≤D→Sp pre→Ix pre W→W.heap[D]?=some (.deferred (some []))→Code.ret.wpIn F n P Q {a with defers:={target:=.collected D,args:=#[]}::a.defers} W) :
  (Code.rangeFunc g ps assign body).wpIn F n P Q a w:=by
 refine wpIn_rangeFunc ?_
 intro fn hfn
 rw[hro]
 obtain⟨lp,hlp⟩:∃lp:LoopState→Option Code→Loop,lp=fun st pe=>{state:=st,pending:=pe,fn,tmps:=a.tmps,params:=ps,assign,body,defers:=w.heap.size}:=⟨_,rfl⟩
 obtain⟨V,hV⟩:∃V,(w.alloc (.deferred (some []))).alloc (.loop (lp .ready none))=V:=⟨_,rfl⟩
 have hL:V.heap[w.heap.size+1]?=some (.loop (lp .ready none)):=by
  have:=World.alloc_heap_new (w.alloc (.deferred (some []))) (.loop (lp .ready none))
  rw[World.size_alloc,hV]at this;exact this
 have hD:V.heap[w.heap.size]?=some (.deferred (some [])):=by
  rw[←hV];exact(Below.heap_alloc _ _ _ (by simp)).trans (World.alloc_heap_new w _)
 have hB:Below w.heap.size w V:=by
  rw[←hV];exact((Below.refl _ w).alloc (Nat.le_refl _) _).alloc (by simp) _
 refine⟨w.heap.size+1,[{target:=.collected w.heap.size,args:=#[]}],V,{target:=.fn (.func gf) lb,args:=#[.func (.yield (w.heap.size+1)) #[] #[]]},V,gf,
  #[.func (.yield (w.heap.size+1)) #[] #[]]++lb,V,?_,?_,?_,?_,fun _=>h1,?_⟩
 ·rw[←hV,hlp];exact run_enterLoop_outer _ _ _ _ _
 ·simp only[resolve,hg];simp[go_sem]
 ·intro f' hf';simp[Target.leads]at hf';subst hf';exact hFg
 ·simp[invoke,go_sem,eg]
 ·refine(hseq (w.heap.size+1)
   (fun pre W=>I pre W∧W.heap[w.heap.size+1]?=some (.loop (lp .ready none))∧W.heap[w.heap.size]?=some (.deferred (some [])))
   (fun pre W=>Ix pre W∧W.heap[w.heap.size+1]?=some (.loop (lp .done (some .ret)))∧W.heap[w.heap.size]?=some (.deferred (some [])))
   V hB
   (fun pre W1 v hs=>⟨hIs _ _ _ hs.1,(Below.heap_setCell _ _ _ _ (by simp;omega)).trans hs.2.1,(Below.heap_setCell _ _ _ _ (by simp;omega)).trans hs.2.2⟩)
   ?_ ⟨by rw[←hV];exact hI.alloc _ (hI.alloc _ h0),hL,hD⟩).mono ?_
  ·rintro pre x W hx ⟨hi,hl,hk⟩
   have hlt:w.heap.size+1<W.heap.size:=(Array.getElem?_eq_some_iff.1 hl).1
   have hy:=run_yield (P:=P) (args:=encs x) hl (by rw[hlp];exact hps x)
   rw[hlp]at hy
   refine⟨fn,_,assign,body,hy,roundIn_of_wpIn hfn (hassign _ x W _ ⟨_,run_beginRound hl (by rw[hlp]),?_⟩)⟩
   obtain⟨U,hU⟩:∃U,W.putObj (w.heap.size+1) (.loop {lp .ready none with state:=.busy})=U:=⟨_,rfl⟩
   have hl2:U.heap[w.heap.size+1]?=some (.loop {lp .ready none with state:=.busy}):=by rw[←hU];exact World.putObj_heap_same hlt
   have hk2:U.heap[w.heap.size]?=some (.deferred (some [])):=by rw[←hU];exact(World.putObj_heap_other (by omega)).trans hk
   have hw2:Below w.heap.size W U:=by rw[←hU];exact belowK_b (w:=w) (Nat.le_refl _) _ _ _ _ (by omega) hl rfl rfl
   have hi2:I pre U:=by rw[←hU];exact hI.putObj _ hi (by omega) hl rfl
   rw[hU]
   refine wpIn_mono (hbody _ pre x _ hx hi2) ?_
   have over:∀(jump:Option Code) (X:World),KeepsOthers U X→
     (Instr.endRound (w.heap.size+1) jump).run P X=.ok (.bool jump.isNone) (X.putObj (w.heap.size+1) (.loop (lp (if jump.isNone then .ready else .done) jump)))∧
     X.heap[w.heap.size+1]?=some (.loop {lp .ready none with state:=.busy})∧
     (X.putObj (w.heap.size+1) (.loop (lp (if jump.isNone then .ready else .done) jump))).heap[w.heap.size+1]?=some (.loop (lp (if jump.isNone then .ready else .done) jump))∧
     (X.putObj (w.heap.size+1) (.loop (lp (if jump.isNone then .ready else .done) jump))).heap[w.heap.size]?=some (.deferred (some [])):=fun jump X hX=>by
    have hl3:=hX.same _ _ hl2 rfl
    have hr:=run_endRound (P:=P) jump hl3
    rw[hlp]at hr ⊢
    exact⟨hr,by rw[hlp]at hl3;exact hl3,World.putObj_heap_same (Array.getElem?_eq_some_iff.1 hl3).1,(World.putObj_heap_other (by omega)).trans (hX.same _ _ hk2 rfl)⟩
   rintro e a3 X hp
   cases e with
   |normal=>
    obtain⟨hX,hbX,qJ⟩:=hp
    obtain⟨hr,hl3,hl4,hk4⟩:=over none X hX
    exact⟨_,_,hr,.inl ⟨rfl,⟨hI.putObj _ qJ (by omega) hl3 rfl,hl4,hk4⟩,(hw2.trans hbX).trans (belowK_b (w:=w) (Nat.le_refl _) _ _ _ _ (by omega) hl3 rfl rfl)⟩⟩
   |ret=>
    obtain⟨hX,qJ⟩:=hp
    obtain⟨hr,hl3,hl4,hk4⟩:=over (some .ret) X hX
    exact⟨_,_,hr,.inr ⟨rfl,hIx.putObj _ qJ (by omega) hl3 rfl,hl4,hk4⟩⟩
   |exit id=>exact hp.elim
   |goto t=>exact hp.elim
   |panic ch=>exact hp.elim
   |outgrown=>exact hp.elim
  ·rintro e X ⟨⟨v,rfl⟩,(⟨xs,hS,hi,hl,hk⟩|⟨pre,hSp,hi,hl,hk⟩)⟩
   ·exact⟨none,_,by have:=run_endLoop (P:=P) hl (by rw[hlp];simp);rw[hlp]at this;exact this,hdone _ xs _ (Nat.le_refl _) hS (hI.putObj _ hi (by omega) hl rfl) ((World.putObj_heap_other (by omega)).trans hk)⟩
   ·exact⟨some .ret,_,by have:=run_endLoop (P:=P) hl (by rw[hlp];simp);rw[hlp]at this;exact this,hstop _ pre _ (Nat.le_refl _) hSp (hIx.putObj _ hi (by omega) hl rfl) ((World.putObj_heap_other (by omega)).trans hk)⟩
end Go.WW
namespace Go.WW
def aB(v lo hi:Int):Bool:=decide (lo≤v)&&decide (v≤hi)
theorem Fh{v lo hi:Int}:aB v lo hi=true↔lo≤v∧v≤hi:=by simp[aB]
def abX(t:Int):Bool:=aB t 0 1099511627776
end Go.WW
namespace Go.Proofs.YtfieenjdcpjmgaaGreatDoor
open Go.RowKit Go.WW
theorem uN(v lo hi:Int)(w:World):Calls Tryz.prog 118 #[.int .i64 v,.int .i64 lo,.int .i64 hi] w fun e w'=>e=.returned (.bool (aB v lo hi))∧w=w':=by
 go_enter Tryz.func118,Tryz.ntmps118
 go_wp2
 all_goals go_ret
 all_goals exact⟨by first|(simp[aB, *];done)|(simp[aB];omega),rfl⟩
theorem wE(v lo hi:Int)(w:World):Calls Tryz.prog 136 #[.int .i64 v,.int .i64 lo,.int .i64 hi] w fun e w'=>e=.returned (.bool (aB v lo hi))∧w=w':=by
 go_enter Tryz.func136,Tryz.ntmps136
 go_wp2
 all_goals go_ret
 all_goals exact⟨by first|(simp[aB, *];done)|(simp[aB];omega),rfl⟩
theorem QE(v lo hi:Int)(w:World):Calls Tryz.prog 146 #[.int .i64 v,.int .i64 lo,.int .i64 hi] w fun e w'=>e=.returned (.bool (aB v lo hi))∧w=w':=by
 go_enter Tryz.func146,Tryz.ntmps146
 go_wp2
 all_goals go_ret
 all_goals exact⟨by first|(simp[aB, *];done)|(simp[aB];omega),rfl⟩
theorem qL(v lo hi:Int)(w:World):Calls Tryz.prog 142 #[.int .i64 v,.int .i64 lo,.int .i64 hi] w fun e w'=>e=.returned (.bool (aB v lo hi))∧w=w':=by
 go_enter Tryz.func142,Tryz.ntmps142
 go_wp2
 all_goals go_ret
 all_goals exact⟨by first|(simp[aB, *];done)|(simp[aB];omega),rfl⟩
end Go.Proofs.YtfieenjdcpjmgaaGreatDoor
namespace Go.WW
def sU(c:UInt8):Bool:=decide (33≤(c.toNat:Int))&&decide ((c.toNat:Int)≤126)
def visible(s:ByteArray):Bool:=s.data.toList.all sU
def sized(s:ByteArray):Bool:=decide (1≤(s.size:Int))&&decide ((s.size:Int)≤32)
def jC(s:ByteArray):Bool:=visible s&&sized s
theorem Fj(s:ByteArray)(k:Nat)(h:k<s.size):s.data.toList[k]?=some s[k]:=by
 have h':k<s.data.size:=h
 rw[Array.getElem?_toList,Array.getElem?_eq_getElem h'];rfl
theorem oJ{p:UInt8→Bool}(s:ByteArray)(k:Nat)(h:k<s.size)(h1:(s.data.toList.take k).all p=true)(h2:p s[k]=true):(s.data.toList.take (k+1)).all p=true:=by
 rw[List.take_succ_eq_append_getElem (by simpa using h),List.all_append,h1]
 have:s.data.toList[k]=s[k]:=rfl
 simp[this,h2]
theorem Ce{p:UInt8→Bool}(s:ByteArray)(k:Nat)(h:k<s.size)(h2:p s[k]=false):s.data.toList.all p=false:=by
 rw[List.all_eq_false]
 exact⟨s[k],List.mem_of_getElem? (Fj s k h),by simp[h2]⟩
theorem Cf{p:UInt8→Bool}(s:ByteArray)(k:Nat)(h:s.size≤k)(h1:(s.data.toList.take k).all p=true):s.data.toList.all p=true:=by
 rwa[List.take_of_length_le (by simpa using h)]at h1
end Go.WW
namespace Go.Proofs.YtfieenjdcpjmgaaGreatDoor
open Go.RowKit Go.WW
theorem Jr(s:ByteArray)(w:World)(hs:s.size≤maxLen):Calls Tryz.prog 143 #[.string s] w fun e w'=>e=.returned (.bool (visible s))∧w=w':=by
 unfold maxLen at hs
 go_enter Tryz.func143,Tryz.ntmps143
 go_wp2
 go_loop [3] (fun i=>∃k:Nat,k≤s.size∧i=.int .i64 k∧Hid ((s.data.toList.take k).all sU=true)) (fun i=>s.size-(intOf i).toNat)
 case atStart=>exact⟨0,Nat.zero_le _,rfl,by simp[Hid]⟩
 case round=>
  obtain⟨k,hk,rfl,hall⟩:=hrel
  by_cases hlt:k<s.size
  ·go_wp2
   all_goals first
    |(go_ret;exact⟨by rw[show visible s=false from Ce s k hlt (by simp[sU];omega)];rfl,rfl⟩)
    |(go_round
      case rel=>exact⟨k+1,by omega,by go_num,oJ s k hlt hall.out (by simp[sU];omega)⟩
      case measure=>simp[intOf];omega)
  ·go_wp2
   go_ret
   exact⟨by rw[show visible s=true from Cf s k (by omega) hall.out];rfl,rfl⟩
theorem Js(s:ByteArray)(w:World)(hs:s.size≤maxLen):Calls Tryz.prog 74 #[.string s] w fun e w'=>e=.returned (.bool (sized s))∧w=w':=by
 unfold maxLen at hs
 go_enter Tryz.func74,Tryz.ntmps74
 go_wp2
 all_goals go_ret
 all_goals exact⟨by first|(simp[sized, *];done)|(simp[sized];omega),rfl⟩
theorem QF(s:ByteArray)(w:World)(hs:s.size≤maxLen):Calls Tryz.prog 277 #[.string s] w fun e w'=>e=.returned (.bool (jC s))∧w=w':=by
 have hs':=hs
 unfold maxLen at hs
 go_enter Tryz.func277,Tryz.ntmps277
 go_wp2
 go_loop [6] (fun i=>∃k:Nat,k≤s.size∧i=.int .i64 k∧Hid ((s.data.toList.take k).all sU=true)) (fun i=>s.size-(intOf i).toNat)
 case atStart=>exact⟨0,Nat.zero_le _,rfl,by simp[Hid]⟩
 case round=>
  obtain⟨k,hk,rfl,hall⟩:=hrel
  by_cases hlt:k<s.size
  ·go_wp2
   all_goals first
    |(go_ret;exact⟨by rw[show jC s=false from by rw[jC,show visible s=false from Ce s k hlt (by simp[sU];omega)];rfl];rfl,rfl⟩)
    |(go_round
      case rel=>exact⟨k+1,by omega,by go_num,oJ s k hlt hall.out (by simp[sU];omega)⟩
      case measure=>simp[intOf];omega)
  ·go_wp2_with (go_at_call 74;refine(Js _ _ hs').mono ?_;rintro e w' ⟨rfl,rfl⟩)
   go_ret
   exact⟨by rw[show jC s=sized s from by rw[jC,show visible s=true from Cf s k (by omega) hall.out];rfl];rfl,rfl⟩
theorem abY(s:ByteArray)(w:World)(hs:s.size≤maxLen):Calls Tryz.prog 121 #[.string s] w fun e w'=>e=.returned (.bool (visible s&&decide ((s.size:Int)≤32)))∧w=w':=by
 unfold maxLen at hs
 go_enter Tryz.func121,Tryz.ntmps121
 go_wp2
 go_loop [6] (fun i=>∃k:Nat,k≤s.size∧i=.int .i64 k∧Hid ((s.data.toList.take k).all sU=true)) (fun i=>s.size-(intOf i).toNat)
 case atStart=>exact⟨0,Nat.zero_le _,rfl,by simp[Hid]⟩
 case round=>
  obtain⟨k,hk,rfl,hall⟩:=hrel
  by_cases hlt:k<s.size
  ·go_wp2
   all_goals first
    |(go_ret;exact⟨by rw[show visible s=false from Ce s k hlt (by simp[sU];omega)];rfl,rfl⟩)
    |(go_round
      case rel=>exact⟨k+1,by omega,by go_num,oJ s k hlt hall.out (by simp[sU];omega)⟩
      case measure=>simp[intOf];omega)
  ·go_wp2
   all_goals go_ret
   all_goals exact⟨by rw[show visible s=true from Cf s k (by omega) hall.out];first|rfl|(simp;done)|(simp;omega),rfl⟩
end Go.Proofs.YtfieenjdcpjmgaaGreatDoor
namespace Go.WW
def oK(c:UInt8):Bool:=(c.toNat:Int) == 46 || (c.toNat:Int) == 45 || (decide (65≤(c.toNat:Int))&&decide ((c.toNat:Int)≤90)) || (decide (48≤(c.toNat:Int))&&decide ((c.toNat:Int)≤57))
def gm(c:UInt8):Bool:=(c.toNat:Int) == 46
def mi(s:ByteArray)(i:Nat):Bool:=
 match s.data.toList[i]? with
 |none=>true
 |some c=>oK c&&!(gm c&&(i == 0 || i+1 == s.size || (s.data.toList[i-1]?).any gm))
def iC(s:ByteArray):Bool:=(List.range s.size).all (mi s)&&sized s
def bC(p:az):Bool:=p.parts.all jC&&decide (1≤(p.parts.length:Int))&&decide ((p.parts.length:Int)≤4)&&iC p.aF
def aX(p q:az):Bool:=decide (p.aF=q.aF)&&decide (p.parts=q.parts)
theorem le_max{n:Nat}(h:n≤lim):n≤maxLen:=by unfold lim at h;unfold maxLen;omega
theorem kX{α:Type}{p:α→Bool}(l:List α)(k:Nat)(h:k<l.length)(h1:(l.take k).all p=true)(h2:p l[k]=true):(l.take (k+1)).all p=true:=by
 rw[List.take_succ_eq_append_getElem h,List.all_append,h1];simp[h2]
theorem qM{α:Type}{p:α→Bool}(l:List α)(k:Nat)(h:k<l.length)(h2:p l[k]=false):l.all p=false:=by
 rw[List.all_eq_false];exact⟨l[k],List.getElem_mem h,by simp[h2]⟩
theorem qN{α:Type}{p:α→Bool}(l:List α)(k:Nat)(h:l.length≤k)(h1:(l.take k).all p=true):l.all p=true:=by
 rwa[List.take_of_length_le h]at h1
theorem Jt(s:ByteArray)(k:Nat)(h:k<s.size):mi s k=(oK s[k]&&!(gm s[k]&&(k == 0 || k+1 == s.size || (s.data.toList[k-1]?).any gm))):=by
 unfold mi;rw[Fj s k h]
theorem Fp(s:ByteArray)(k:Nat)(h:k<s.size)(hn:mi s k=false):iC s=false:=by
 have:(List.range s.size).all (mi s)=false:=by rw[List.all_eq_false];exact⟨k,List.mem_range.2 h,by simp[hn]⟩
 rw[iC,this];rfl
theorem Fq(s:ByteArray)(k:Nat)(h:(List.range k).all (mi s)=true)(hn:mi s k=true):(List.range (k+1)).all (mi s)=true:=by
 rw[List.range_succ,List.all_append,h];simp[hn]
theorem abZ(s:ByteArray)(k:Nat)(hk:k=s.size)(h:(List.range k).all (mi s)=true):iC s=sized s:=by
 subst hk;rw[iC,h];rfl
theorem ab1(c:Int):c=46∨c=45∨(65≤c∧c≤90)∨(48≤c∧c≤57)∨c<45∨c=47∨(57<c∧c<65)∨90<c:=by omega
theorem Ci{c:UInt8}(h:(c.toNat:Int)=46∨(c.toNat:Int)=45∨(65≤(c.toNat:Int)∧(c.toNat:Int)≤90)∨(48≤(c.toNat:Int)∧(c.toNat:Int)≤57)):oK c=true:=by
 unfold oK;simp;omega
theorem ab2{c:UInt8}(h:(c.toNat:Int)<45∨(c.toNat:Int)=47∨(57<(c.toNat:Int)∧(c.toNat:Int)<65)∨90<(c.toNat:Int)):oK c=false:=by
 unfold oK;simp;omega
theorem Fv{c:UInt8}(h:¬(c.toNat:Int)=46):gm c=false:=by unfold gm;simpa using h
theorem QG{c:UInt8}(h:(c.toNat:Int)=46):gm c=true:=by unfold gm;simpa using h
theorem ab3{s:ByteArray}{k:Nat}(hk:k<s.size)(h:oK s[k]=false):mi s k=false:=by rw[Jt s k hk,h];rfl
theorem Ju{s:ByteArray}{k:Nat}(hk:k<s.size)(h:oK s[k]=true)(h':gm s[k]=false):mi s k=true:=by rw[Jt s k hk,h,h'];rfl
theorem ab4{s:ByteArray}{k:Nat}(hk:k<s.size)(h':gm s[k]=true):mi s k=!(k == 0 || k+1 == s.size || (s.data.toList[k-1]?).any gm):=by
 have:oK s[k]=true:=Ci (.inl (by unfold gm at h';simpa using h'))
 rw[Jt s k hk,this,h'];rfl
theorem Jv{s:ByteArray}(h:((s.size:Int)<1∨32<(s.size:Int))∨(!visible s)=true):jC s=false:=by
 unfold jC sized
 rcases h with h|h
 ·have:(decide (1≤(s.size:Int))&&decide ((s.size:Int)≤32))=false:=by simp;omega
  rw[this];simp
 ·have:visible s=false:=by simpa using h
  rw[this];rfl
theorem ab5{s:ByteArray}(h:32<(s.size:Int)):jC s=false:=Jv (.inl (.inr h))
theorem ab6{s:ByteArray}(h:(s.size:Int)<1):jC s=false:=Jv (.inl (.inl h))
theorem ab7{s:ByteArray}(h:(1≤(s.size:Int)∧(s.size:Int)≤32)∧(!visible s)=false):jC s=true:=by
 have:visible s=true:=by simpa using h.2
 unfold jC sized;rw[this];simp[h.1]
theorem QH{p:az}(k:Nat)(hlt:k<p.parts.length)(h:jC p.parts[k]=false):bC p=false:=by rw[bC,qM p.parts k hlt h];rfl
theorem ab8{p:az}(h:p.parts.all jC=true)(h1:1≤(p.parts.length:Int))(h2:(p.parts.length:Int)≤4):bC p=iC p.aF:=by simp[bC,h,h1,h2]
theorem ab9{p:az}(h2:4<(p.parts.length:Int)):bC p=false:=by
 have:decide ((p.parts.length:Int)≤4)=false:=by simp;omega
 simp[bC,this]
theorem aca{p:az}(h2:(p.parts.length:Int)<1):bC p=false:=by
 have:decide (1≤(p.parts.length:Int))=false:=by simp;omega
 simp[bC,this]
end Go.WW
namespace Go.Proofs.YtfieenjdcpjmgaaGreatDoor
open Go.RowKit Go.WW
theorem QI(s:ByteArray)(w:World)(hs:s.size≤lim):Calls Tryz.prog 32 #[.string s] w fun e w'=>e=.returned (.bool (iC s))∧w=w':=by
 have hs':s.size≤4294967000:=hs
 go_enter Tryz.func32,Tryz.ntmps32
 go_wp2
 go_loop [3] (fun i=>∃k:Nat,k≤s.size∧i=.int .i64 k∧Hid ((List.range k).all (mi s)=true)) (fun i=>s.size-(intOf i).toNat)
 case atStart=>exact⟨0,Nat.zero_le _,rfl,by simp[Hid]⟩
 case round=>
  obtain⟨k,hk,rfl,hall⟩:=hrel
  by_cases hlt:k<s.size
  ·have hall':=hall;clear hall
   rcases ab1 (s[k].toNat:Int)with hc|hc|⟨hc1,hc2⟩|⟨hc1,hc2⟩|hc|hc|⟨hc1,hc2⟩|hc
   ·have HD:=QG hc
    have HA:=Lib.hid (ab4 hlt HD)
    clear HD
    have hb:((s[k].toNat:Int) == 46)=true:=by simp[hc]
    have hb':((s[k].toNat:Int) != 46)=false:=by simp[hc]
    clear hc
    by_cases h0:k=0
    ·subst h0
     go_wp2
     go_ret
     exact⟨by rw[Fp s 0 hlt (by rw[HA.out];rfl)];rfl,rfl⟩
    ·have h0':((k:Int) == 0)=false:=by simp;omega
     by_cases h1:k+1=s.size
     ·have h1':((k:Int) == (s.size:Int)-1)=true:=by simp;omega
      have H1:=Lib.hid h1
      clear h1
      go_wp2
      go_ret
      exact⟨by rw[Fp s k hlt (by rw[HA.out,H1.out];simp)];rfl,rfl⟩
     ·obtain⟨j,rfl⟩:∃j,k=j+1:=⟨k-1,by omega⟩
      have hj:j<s.size:=by omega
      have apa:((j:Int)+1 == 0)=false:=by simp;omega
      have h1':((j:Int)+1 == (s.size:Int)-1)=false:=by simp;omega
      have H1:=Lib.hid h1
      clear h1 h0 h0'
      by_cases h2:(s[j].toNat:Int)=46
      ·have h2':((s[j].toNat:Int) == 46)=true:=by simp[h2]
       have HJ:=Lib.hid (QG h2)
       clear h2
       go_wp2
       go_ret
       exact⟨by rw[Fp s (j+1) hlt (by rw[HA.out];simp[Fj s j hj,HJ.out])];rfl,rfl⟩
      ·have h2':((s[j].toNat:Int) == 46)=false:=by simp[h2]
       have HJ:=Lib.hid (Fv h2)
       clear h2
       have HS:=Lib.hid (Fq s (j+1) hall'.out (by rw[HA.out];simp[Fj s j hj,HJ.out,H1.out]))
       go_wp2
       go_round
       case rel=>exact⟨j+1+1,by omega,by go_num,HS.out⟩
       case measure=>simp[intOf];omega
   ·have HA:=Lib.hid (Ju hlt (Ci (.inr (.inl hc))) (Fv (by omega)))
    go_wp2
    go_round
    case rel=>exact⟨k+1,by omega,by go_num,Fq s k hall'.out HA.out⟩
    case measure=>simp[intOf];omega
   ·have HA:=Lib.hid (Ju hlt (Ci (.inr (.inr (.inl ⟨hc1,hc2⟩)))) (Fv (by omega)))
    go_wp2
    go_round
    case rel=>exact⟨k+1,by omega,by go_num,Fq s k hall'.out HA.out⟩
    case measure=>simp[intOf];omega
   ·have HA:=Lib.hid (Ju hlt (Ci (.inr (.inr (.inr ⟨hc1,hc2⟩)))) (Fv (by omega)))
    go_wp2
    go_round
    case rel=>exact⟨k+1,by omega,by go_num,Fq s k hall'.out HA.out⟩
    case measure=>simp[intOf];omega
   all_goals
    have HA:=Lib.hid (Fp s k hlt (ab3 hlt (ab2 (by omega))))
    have b1:((s[k].toNat:Int) == 46)=false:=by simp;omega
    have b2:((s[k].toNat:Int) != 46)=true:=by simp;omega
    have b3:((s[k].toNat:Int) != 45)=true:=by simp;omega
    first|(have b4:decide ((s[k].toNat:Int)≤57)=false:=(by simp;omega))|skip
    first|(have b5:decide ((s[k].toNat:Int)≤90)=false:=(by simp;omega))|skip
    go_wp2
    go_ret
    exact⟨by rw[HA.out];rfl,rfl⟩
  ·have HE:=Lib.hid (abZ s k (by omega) hall.out)
   go_wp2
   all_goals go_ret
   all_goals exact⟨by rw[HE.out];first|rfl|(simp[sized, *];done)|(simp[sized];omega),rfl⟩
theorem zW(s:Sl)(p:az)(w:World)(hp:bz w s p):Calls Tryz.prog 139 #[.agg (ai s p)] w fun e w'=>e=.returned (.bool (bC p))∧Below w.heap.size w w':=by
 have hl:p.parts.length≤4294967000:=hp.1.1
 go_enter Tryz.func139,Tryz.ntmps139
 go_wp2
 go_loop [3] (fun i=>∃k:Nat,k≤p.parts.length∧i=.int .i64 k∧Hid ((p.parts.take k).all jC=true)) (fun i=>p.parts.length-(intOf i).toNat)
 case atStart=>exact⟨0,Nat.zero_le _,rfl,by simp[Hid]⟩
 case round=>
  obtain⟨k,hk,rfl,hall⟩:=hrel
  by_cases hlt:k<p.parts.length
  ·obtain⟨b,o,ha,hc,hsz⟩:=hp.1.get k hlt
   have hb:b<w.heap.size:=World.block_lt_of_cell? w _ hc
   go_wp2_with (go_at_call 143;refine(Jr _ _ (le_max hsz)).mono ?_;rintro e w' ⟨rfl,rfl⟩)
   all_goals first
    |(go_ret
      have hno:jC p.parts[k]=false:=by first|exact Jv ‹_›|exact ab5 ‹_›|exact ab6 ‹_›
      exact⟨by rw[QH k hlt hno];rfl,(Below.refl _ _).alloc (Nat.le_refl _) _⟩)
    |(go_round
      case rel=>exact⟨k+1,by omega,by go_num,kX p.parts k hlt hall.out (ab7 ‹_›)⟩
      case measure=>simp[intOf];omega)
  ·have hy:=qN p.parts k (by omega) hall.out
   have HY:Hid (p.parts.all jC=true):=hy
   clear hy
   go_wp2_with (go_at_call 32;refine(QI _ _ hp.2).mono ?_;rintro e w' ⟨rfl,rfl⟩)
   all_goals go_ret
   all_goals exact⟨by first|(rw[ab8 HY.out ‹_› ‹_›];rfl)|(rw[ab9 ‹_›];rfl)|(rw[aca ‹_›];rfl),(Below.refl _ _).alloc (Nat.le_refl _) _⟩
end Go.Proofs.YtfieenjdcpjmgaaGreatDoor
namespace Go.WW
theorem str_eq(a b:ByteArray)(h:a=b):(a.toList == b.toList)=true:=by subst h;simp
theorem kY(a b:ByteArray)(h:¬a=b):(a.toList == b.toList)=false:=by
 rw[ByteArray.toList_eq,ByteArray.toList_eq,beq_eq_false_iff_ne]
 exact fun e=>h (WideShapes.bytes_inj e)
theorem acb{p q:az}(h:¬p.aF=q.aF):aX p q=false:=by simp[aX,h]
theorem acd{p q:az}(h:¬p.parts.length=q.parts.length):aX p q=false:=by
 have:decide (p.parts=q.parts)=false:=by simp;intro e;exact h (by rw[e])
 simp[aX,this]
theorem ace{p q:az}(k:Nat)(h1:k<p.parts.length)(h2:k<q.parts.length)(h:¬p.parts[k]=q.parts[k]):aX p q=false:=by
 have:decide (p.parts=q.parts)=false:=by simp;intro e;exact h (by simp[e])
 simp[aX,this]
theorem acf{p q:az}(k:Nat)(hr:p.aF=q.aF)(h1:p.parts.length≤k)(h2:q.parts.length≤k)(h:p.parts.take k=q.parts.take k):aX p q=true:=by
 rw[List.take_of_length_le h1,List.take_of_length_le h2]at h
 simp[aX,hr,h]
theorem acg{α:Type}{l m:List α}(k:Nat)(h1:k<l.length)(h2:k<m.length)(h:l.take k=m.take k)(he:l[k]=m[k]):l.take (k+1)=m.take (k+1):=by
 rw[List.take_succ_eq_append_getElem h1,List.take_succ_eq_append_getElem h2,h,he]
end Go.WW
namespace Go.Proofs.YtfieenjdcpjmgaaGreatDoor
open Go.RowKit Go.WW
theorem oL(s t:Sl)(p q:az)(w:World)(hp:bz w s p)(hq:bz w t q):Calls Tryz.prog 27 #[.agg (ai s p),.agg (ai t q)] w fun e w'=>e=.returned (.bool (aX p q))∧Below w.heap.size w w':=by
 have hl:p.parts.length≤4294967000:=hp.1.1
 have hB:Below w.heap.size w ((w.alloc (.cells (ai s p) 40)).alloc (.cells (ai t q) 40)):=((Below.refl _ _).alloc (Nat.le_refl _) _).alloc (by simp) _
 by_cases hr:p.aF=q.aF
 ·have hr':=str_eq _ _ hr
  have HR:=Lib.hid hr;clear hr
  by_cases hn:p.parts.length=q.parts.length
  ·have hn':((p.parts.length:Int) != (q.parts.length:Int))=false:=by simp[hn]
   have hn1:p.parts.length≤q.parts.length:=by omega
   have hn2:q.parts.length≤p.parts.length:=by omega
   clear hn
   go_enter Tryz.func27,Tryz.ntmps27
   go_wp2
   go_loopw [5] (fun i wr=>Below ((w.alloc (.cells (ai s p) 40)).alloc (.cells (ai t q) 40)).heap.size ((w.alloc (.cells (ai s p) 40)).alloc (.cells (ai t q) 40)) wr∧∃k:Nat,k≤p.parts.length∧i=.int .i64 k∧Hid (p.parts.take k=q.parts.take k)) (fun i _=>p.parts.length-(intOf i).toNat)
   case atStart=>exact⟨Below.refl _ _,0,Nat.zero_le _,rfl,by simp[Hid]⟩
   case round=>
    obtain⟨hbr,k,hk,rfl,hall⟩:=hrel
    obtain⟨hcc,aS,hrr⟩:=aY hbr
    by_cases hlt:k<p.parts.length
    ·have hlq:k<q.parts.length:=by omega
     obtain⟨b,o,ha,hc,hsz⟩:=hp.1.get k hlt
     obtain⟨b',o',ha',hc',hsz'⟩:=hq.1.get k hlq
     have hb:b<w.heap.size:=World.block_lt_of_cell? w _ hc
     have hb':b'<w.heap.size:=World.block_lt_of_cell? w _ hc'
     have hb1:b<w.heap.size+1+1:=by omega
     have hb1':b'<w.heap.size+1+1:=by omega
     have hki:(k:Int)<(p.parts.length:Int):=by omega
     have hkq:(k:Int)<(q.parts.length:Int):=by omega
     by_cases he:p.parts[k]=q.parts[k]
     ·have he':=str_eq _ _ he
      have HT:=Lib.hid (acg k hlt hlq hall.out he)
      clear he
      go_wp2
      refine dO hbr (by kernel_rfl) (by kernel_rfl) ?_
      repeat (go_big_quiet_step (fail))
      refine wpQuiet_nil ?_
      intro w2 hb2
      go_wp2
      go_roundw
      case rel=>exact⟨hb2,k+1,by omega,by go_num,HT.out⟩
      case measure=>simp[intOf];omega
     ·have he':=kY _ _ he
      have HT:=Lib.hid (ace k hlt hlq he)
      clear he
      go_wp2
      refine dO hbr (by kernel_rfl) (by kernel_rfl) ?_
      repeat (go_big_quiet_step (fail))
      refine wpQuiet_nil ?_
      intro w2 hb2
      go_wp2
      go_ret
      exact⟨by rw[HT.out];rfl,hB.trans (hb2.mono (by simp;omega))⟩
    ·have HT:=Lib.hid (acf k HR.out (by omega) (by omega) hall.out)
     go_wp2
     go_ret
     exact⟨by rw[HT.out];rfl,hB.trans (hbr.mono (by simp;omega))⟩
  ·have hn':((p.parts.length:Int) != (q.parts.length:Int))=true:=by simp;omega
   have HN:=Lib.hid (acd hn);clear hn
   go_enter Tryz.func27,Tryz.ntmps27
   go_wp2
   go_ret
   exact⟨by rw[HN.out];rfl,hB⟩
 ·have hr':=kY _ _ hr
  have HN:=Lib.hid (acb hr);clear hr
  go_enter Tryz.func27,Tryz.ntmps27
  go_wp2
  go_ret
  exact⟨by rw[HN.out];rfl,hB⟩
end Go.Proofs.YtfieenjdcpjmgaaGreatDoor
namespace Go.WW
def dR(p:Int):Int:=if p == 1 then 16 else if p == 2 then 32 else 0
def nz(k:Key):Bool:=decide (0<dR k.profile)&&((k.bytes.length:Int) == dR k.profile)&&aB k.version 0 65535
def iF(dP ver:Int)(k:Key):Bool:=!(dR k.profile == 0)&&!(k.version != ver)&&(if dP == 0 then nz k else aB k.bytes.length 1 256)
def jr{α:Type}(r:α→α→Bool)(l:List α)(i:Nat):Bool:=i == 0 || (match l[i-1]?,l[i]? with|some a,some b=>r a b|_,_=>true)
def ordered{α:Type}(r:α→α→Bool)(l:List α):Bool:=(List.range l.length).all (jr r l)
def mr(a b:Key):Bool:=decide (a.profile<b.profile)
def iR(s:bn):Bool:=aB s.version 1 65535&&aB s.keys.length 1 4&&decide ((s.df.size:Int)≤256)&&aB s.dH 0 65536&&(decide (0<s.dH) || s.df.toList.isEmpty)&&aB s.created 0 1099511627776
def gV(dP:Int)(s:bn):Bool:=s.keys.all (iF dP s.version)&&ordered mr s.keys&&iR s
theorem Fz{f:Nat→Bool}(k:Nat)(h:(List.range k).all f=true)(hn:f k=true):(List.range (k+1)).all f=true:=by
 rw[List.range_succ,List.all_append,h];simp[hn]
theorem Cj{f:Nat→Bool}(n k:Nat)(h:k<n)(hn:f k=false):(List.range n).all f=false:=by
 rw[List.all_eq_false];exact⟨k,List.mem_range.2 h,by simp[hn]⟩
theorem aci{f:Nat→Bool}(n k:Nat)(hk:k=n)(h:(List.range k).all f=true):(List.range n).all f=true:=by subst hk;exact h
end Go.WW
namespace Go.Proofs.YtfieenjdcpjmgaaGreatDoor
open Go.RowKit Go.WW
theorem sV(p:Int)(w:World):Calls Tryz.prog 213 #[.int .i64 p] w fun e w'=>e=.returned (.int .i64 (dR p))∧w=w':=by
 rcases(show p=1∨p=2∨(¬p=1∧¬p=2) by omega)with rfl|rfl|⟨h1,h2⟩
 iterate 2
  ·go_enter Tryz.func213,Tryz.ntmps213
   go_wp2
   go_ret
   exact⟨rfl,rfl⟩
 ·have h1':(p == 1)=false:=by simpa using h1
  have h2':(p == 2)=false:=by simpa using h2
  have HK:Hid (dR p=0):=by simp[Hid,dR,h1,h2]
  clear h1 h2
  go_enter Tryz.func213,Tryz.ntmps213
  go_wp2
  go_ret
  exact⟨by rw[HK.out];rfl,rfl⟩
theorem xY(s:Sl)(k:Key)(w:World):Calls Tryz.prog 214 #[.agg (bW s k)] w fun e w'=>e=.returned (.bool (nz k))∧Below w.heap.size w w':=by
 have hB:∀ob,Below w.heap.size w (w.alloc ob):=fun ob=>(Below.refl _ _).alloc (Nat.le_refl _) _
 by_cases h1:0<dR k.profile
 ·by_cases h2:(k.bytes.length:Int)=dR k.profile
  ·have h2':((k.bytes.length:Int) == dR k.profile)=true:=by simp[h2]
   have HF:Hid (nz k=aB k.version 0 65535):=by simp[Hid,nz,h1,h2]
   clear h2
   go_enter Tryz.func214,Tryz.ntmps214
   go_wp2
   refine dO (Below.refl _ _) (by kernel_rfl) (by kernel_rfl) ?_
   repeat (go_big_quiet_step (first|(go_at_call 213;exact Calls.BR (sV _ _))|(go_at_call 142;exact Calls.BR (qL _ _ _ _))))
   refine wpQuiet_nil ?_
   intro w2 hb2
   go_wp2
   go_ret
   exact⟨by rw[HF.out];rfl,(hB _).trans (hb2.mono (by simp))⟩
  ·have h2':((k.bytes.length:Int) == dR k.profile)=false:=by simp[h2]
   have HF:Hid (nz k=false):=by simp[Hid,nz,h2]
   clear h2
   go_enter Tryz.func214,Tryz.ntmps214
   go_wp2
   refine dO (Below.refl _ _) (by kernel_rfl) (by kernel_rfl) ?_
   repeat (go_big_quiet_step ((go_at_call 213;exact Calls.BR (sV _ _))))
   refine wpQuiet_nil ?_
   intro w2 hb2
   go_wp2
   go_ret
   exact⟨by rw[HF.out];rfl,(hB _).trans (hb2.mono (by simp))⟩
 ·have h1':decide (0<dR k.profile)=false:=by simpa using h1
  have HF:Hid (nz k=false):=by simp[Hid,nz,h1']
  clear h1
  go_enter Tryz.func214,Tryz.ntmps214
  go_wp2
  refine dO (Below.refl _ _) (by kernel_rfl) (by kernel_rfl) ?_
  repeat (go_big_quiet_step ((go_at_call 213;exact Calls.BR (sV _ _))))
  refine wpQuiet_nil ?_
  intro w2 hb2
  go_wp2
  go_ret
  exact⟨by rw[HF.out];rfl,(hB _).trans (hb2.mono (by simp))⟩
end Go.Proofs.YtfieenjdcpjmgaaGreatDoor
