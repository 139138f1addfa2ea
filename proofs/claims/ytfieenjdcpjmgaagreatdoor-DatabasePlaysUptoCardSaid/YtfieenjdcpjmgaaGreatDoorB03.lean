/- A part of the proof. -/
import Derived.Test.YtfieenjdcpjmgaaGreatDoorB02
import Derived.Test.YtfieenjdcpjmgaaGreatDoorProg
import Derived.Lib.Strings
import Derived.Lib.Slices
import Derived.Lib.Walk
import Derived.Lib.Bytealg
import Derived.RangeFuncNested
import Derived.RangeFuncBound
import Derived.RangeFuncCalls
import Derived.RangeFuncLeaves
import Derived.Shelf.Abstract
import Derived.Shelf.RegionOpen
import Derived.OwnWalkIn
import Derived.TacticsInMore
import Derived.LoopNIn
import Derived.LoopIn
set_option maxRecDepth 100000
set_option maxHeartbeats 2000000
namespace Go.WW
open Go.RowKit
def lim:Nat:=4294967000
section
variable (w:World)
def aX(k:Nat)(a:Option Addr)(n:Nat)(R:Nat→Array Value→Prop):Prop:=
 n≤lim∧∀i,i<n→∃b o cs,a=some ⟨b,o,none⟩∧row? w b (o+i*k) k=some cs∧R i cs
def dY(a:Option Addr)(n:Nat)(R:Nat→Value→Prop):Prop:=
 n≤lim∧∀i,i<n→∃b o v,a=some ⟨b,o,none⟩∧w.cell? ⟨b,o+i,none⟩=some v∧R i v
def kH(a:Option Addr)(l:List ByteArray):Prop:=dY w a l.length fun i v=>∃s,l[i]?=some s∧v=.string s∧s.size≤lim
def BytesAt(a:Option Addr)(l:List UInt8):Prop:=dY w a l.length fun i v=>∃c,l[i]?=some c∧v=.int .u8 c.toNat
def pX(a:Option Addr)(l:List Int):Prop:=dY w a l.length fun i v=>∃c,l[i]?=some c∧v=.int .i64 c
def qN(a:Option Addr)(l:List Bool):Prop:=dY w a l.length fun i v=>∃c,l[i]?=some c∧v=.bool c
def bn(s:Sl)(p:az):Prop:=kH w s.a p.parts∧p.aG.size≤lim
def fJ(a:Option Addr)(l:List az):Prop:=aX w 2 a l.length fun i cs=>∃p s,l[i]?=some p∧cs=ah s p∧bn w s p
def kJ(s:Sl)(k:Key):Prop:=BytesAt w s.a k.bytes
def kV(a:Option Addr)(l:List Key):Prop:=aX w 3 a l.length fun i cs=>∃k s,l[i]?=some k∧cs=bZ s k∧kJ w s k
def jA(s:Sl)(k:bC):Prop:=kV w s.a k.keys∧k.di.size≤lim
def mO(a:Option Addr)(l:List bC):Prop:=aX w 5 a l.length fun i cs=>∃k s,l[i]?=some k∧cs=bz s k∧jA w s k
def fK(a:Option Addr)(l:List (List UInt8)):Prop:=dY w a l.length fun i v=>∃x,∃s:Sl,l[i]?=some x∧v=.slice s.a x.length s.cap∧BytesAt w s.a x
structure bK(r:aN)(d:Entry):Prop where
 name:bn w r.parts d.name
 aliases:fJ w r.aliases.a d.aliases
 keys:mO w r.keys.a d.keys
 targets:fJ w r.targets.a d.targets
 bD:fJ w r.bD.a d.bD
 history:fK w r.history.a d.history
 aO:d.aO.size≤lim
 attrs:0≤d.attrs∧d.attrs≤4294967295
end
section
variable {w w':World} (h:Below w.heap.size w w')
include h
theorem aX.later{k:Nat}{a:Option Addr}{n:Nat}{R R':Nat→Array Value→Prop}(hR:∀i cs,R i cs→R' i cs)(x:aX w k a n R):aX w' k a n R':=by
 refine⟨x.1,fun i hi=>?_⟩
 obtain⟨b,o,cs,ha,hr,hR1⟩:=x.2 i hi
 exact⟨b,o,cs,ha,by rw[gZ (h.block b (gm hr))];exact hr,hR i cs hR1⟩
theorem dY.later{a:Option Addr}{n:Nat}{R R':Nat→Value→Prop}(hR:∀i cs,R i cs→R' i cs)(x:dY w a n R):dY w' a n R':=by
 refine⟨x.1,fun i hi=>?_⟩
 obtain⟨b,o,cs,ha,hr,hR1⟩:=x.2 i hi
 exact⟨b,o,cs,ha,by rw[h.cell (World.block_lt_of_cell? w _ hr)];exact hr,hR i cs hR1⟩
theorem kH.later{a:Option Addr}{l:List ByteArray}(x:kH w a l):kH w' a l:=dY.later h (fun _ _ y=>y) x
theorem BytesAt.later{a:Option Addr}{l:List UInt8}(x:BytesAt w a l):BytesAt w' a l:=dY.later h (fun _ _ y=>y) x
theorem pX.later{a:Option Addr}{l:List Int}(x:pX w a l):pX w' a l:=dY.later h (fun _ _ y=>y) x
theorem qN.later{a:Option Addr}{l:List Bool}(x:qN w a l):qN w' a l:=dY.later h (fun _ _ y=>y) x
theorem bn.later{s:Sl}{p:az}(x:bn w s p):bn w' s p:=⟨x.1.later h,x.2⟩
theorem fJ.later{a:Option Addr}{l:List az}(x:fJ w a l):fJ w' a l:=aX.later h (fun _ _ ⟨p,s,y1,y2,y3⟩=>⟨p,s,y1,y2,y3.later h⟩) x
theorem kJ.later{s:Sl}{k:Key}(x:kJ w s k):kJ w' s k:=BytesAt.later h x
theorem kV.later{a:Option Addr}{l:List Key}(x:kV w a l):kV w' a l:=aX.later h (fun _ _ ⟨p,s,y1,y2,y3⟩=>⟨p,s,y1,y2,y3.later h⟩) x
theorem jA.later{s:Sl}{k:bC}(x:jA w s k):jA w' s k:=⟨x.1.later h,x.2⟩
theorem mO.later{a:Option Addr}{l:List bC}(x:mO w a l):mO w' a l:=aX.later h (fun _ _ ⟨p,s,y1,y2,y3⟩=>⟨p,s,y1,y2,y3.later h⟩) x
theorem fK.later{a:Option Addr}{l:List (List UInt8)}(x:fK w a l):fK w' a l:=dY.later h (fun _ _ ⟨p,s,y1,y2,y3⟩=>⟨p,s,y1,y2,y3.later h⟩) x
theorem bK.later{r:aN}{d:Entry}(x:bK w r d):bK w' r d:=
 ⟨x.name.later h,x.aliases.later h,x.keys.later h,x.targets.later h,x.bD.later h,x.history.later h,x.aO,x.attrs⟩
end
section
variable {w:World} {a:Option Addr}
theorem kH.get{l:List ByteArray}(x:kH w a l)(i:Nat)(h:i<l.length):∃b o,a=some ⟨b,o,none⟩∧w.cell? ⟨b,o+i,none⟩=some (.string l[i])∧l[i].size≤lim:=by
 obtain⟨b,o,v,h1,h2,s,h3,rfl,h4⟩:=x.2 i h
 rw[List.getElem?_eq_getElem h]at h3;cases h3
 exact⟨b,o,h1,h2,h4⟩
theorem BytesAt.get{l:List UInt8}(x:BytesAt w a l)(i:Nat)(h:i<l.length):∃b o,a=some ⟨b,o,none⟩∧w.cell? ⟨b,o+i,none⟩=some (.int .u8 l[i].toNat):=by
 obtain⟨b,o,v,h1,h2,s,h3,rfl⟩:=x.2 i h
 rw[List.getElem?_eq_getElem h]at h3;cases h3
 exact⟨b,o,h1,h2⟩
theorem pX.get{l:List Int}(x:pX w a l)(i:Nat)(h:i<l.length):∃b o,a=some ⟨b,o,none⟩∧w.cell? ⟨b,o+i,none⟩=some (.int .i64 l[i]):=by
 obtain⟨b,o,v,h1,h2,s,h3,rfl⟩:=x.2 i h
 rw[List.getElem?_eq_getElem h]at h3;cases h3
 exact⟨b,o,h1,h2⟩
theorem qN.get{l:List Bool}(x:qN w a l)(i:Nat)(h:i<l.length):∃b o,a=some ⟨b,o,none⟩∧w.cell? ⟨b,o+i,none⟩=some (.bool l[i]):=by
 obtain⟨b,o,v,h1,h2,s,h3,rfl⟩:=x.2 i h
 rw[List.getElem?_eq_getElem h]at h3;cases h3
 exact⟨b,o,h1,h2⟩
theorem fJ.get{l:List az}(x:fJ w a l)(i:Nat)(h:i<l.length):∃b o s,a=some ⟨b,o,none⟩∧row? w b (o+i*2) 2=some (ah s l[i])∧bn w s l[i]:=by
 obtain⟨b,o,v,h1,h2,p,s,h3,rfl,h4⟩:=x.2 i h
 rw[List.getElem?_eq_getElem h]at h3;cases h3
 exact⟨b,o,s,h1,h2,h4⟩
theorem kV.get{l:List Key}(x:kV w a l)(i:Nat)(h:i<l.length):∃b o s,a=some ⟨b,o,none⟩∧row? w b (o+i*3) 3=some (bZ s l[i])∧kJ w s l[i]:=by
 obtain⟨b,o,v,h1,h2,p,s,h3,rfl,h4⟩:=x.2 i h
 rw[List.getElem?_eq_getElem h]at h3;cases h3
 exact⟨b,o,s,h1,h2,h4⟩
theorem mO.get{l:List bC}(x:mO w a l)(i:Nat)(h:i<l.length):∃b o s,a=some ⟨b,o,none⟩∧row? w b (o+i*5) 5=some (bz s l[i])∧jA w s l[i]:=by
 obtain⟨b,o,v,h1,h2,p,s,h3,rfl,h4⟩:=x.2 i h
 rw[List.getElem?_eq_getElem h]at h3;cases h3
 exact⟨b,o,s,h1,h2,h4⟩
theorem fK.get{l:List (List UInt8)}(x:fK w a l)(i:Nat)(h:i<l.length):∃b o,∃s:Sl,a=some ⟨b,o,none⟩∧w.cell? ⟨b,o+i,none⟩=some (.slice s.a l[i].length s.cap)∧BytesAt w s.a l[i]:=by
 obtain⟨b,o,v,h1,h2,p,s,h3,rfl,h4⟩:=x.2 i h
 rw[List.getElem?_eq_getElem h]at h3;cases h3
 exact⟨b,o,s,h1,h2,h4⟩
end
theorem aX.addr{w:World}{k n:Nat}{a:Option Addr}{R:Nat→Array Value→Prop}(x:aX w k a n R):n=0∨∃b o,a=some ⟨b,o,none⟩∧b<w.heap.size:=by
 rcases Nat.eq_zero_or_pos n with h|h
 ·exact .inl h
 ·obtain⟨b,o,cs,ha,hr,_⟩:=x.2 0 h
  exact .inr ⟨b,o,ha,gm hr⟩
theorem dY.addr{w:World}{n:Nat}{a:Option Addr}{R:Nat→Value→Prop}(x:dY w a n R):n=0∨∃b o,a=some ⟨b,o,none⟩∧b<w.heap.size:=by
 rcases Nat.eq_zero_or_pos n with h|h
 ·exact .inl h
 ·obtain⟨b,o,v,ha,hr,_⟩:=x.2 0 h
  exact .inr ⟨b,o,ha,World.block_lt_of_cell? w _ hr⟩
theorem kH.at{w:World}{b o:Nat}{l:List ByteArray}(x:kH w (some ⟨b,o,none⟩) l)(i:Nat)(h:i<l.length):w.cell? ⟨b,o+i,none⟩=some (.string l[i])∧l[i].size≤lim:=by
 obtain⟨b',o',ha,hc,hs⟩:=x.get i h;cases ha;exact⟨hc,hs⟩
theorem BytesAt.at{w:World}{b o:Nat}{l:List UInt8}(x:BytesAt w (some ⟨b,o,none⟩) l)(i:Nat)(h:i<l.length):w.cell? ⟨b,o+i,none⟩=some (.int .u8 l[i].toNat):=by
 obtain⟨b',o',ha,hc⟩:=x.get i h;cases ha;exact hc
theorem pX.at{w:World}{b o:Nat}{l:List Int}(x:pX w (some ⟨b,o,none⟩) l)(i:Nat)(h:i<l.length):w.cell? ⟨b,o+i,none⟩=some (.int .i64 l[i]):=by
 obtain⟨b',o',ha,hc⟩:=x.get i h;cases ha;exact hc
theorem qN.at{w:World}{b o:Nat}{l:List Bool}(x:qN w (some ⟨b,o,none⟩) l)(i:Nat)(h:i<l.length):w.cell? ⟨b,o+i,none⟩=some (.bool l[i]):=by
 obtain⟨b',o',ha,hc⟩:=x.get i h;cases ha;exact hc
theorem fJ.at{w:World}{b o:Nat}{l:List az}(x:fJ w (some ⟨b,o,none⟩) l)(i:Nat)(h:i<l.length):∃s,row? w b (o+i*2) 2=some (ah s l[i])∧bn w s l[i]:=by
 obtain⟨b',o',s,ha,hc⟩:=x.get i h;cases ha;exact⟨s,hc⟩
theorem kV.at{w:World}{b o:Nat}{l:List Key}(x:kV w (some ⟨b,o,none⟩) l)(i:Nat)(h:i<l.length):∃s,row? w b (o+i*3) 3=some (bZ s l[i])∧kJ w s l[i]:=by
 obtain⟨b',o',s,ha,hc⟩:=x.get i h;cases ha;exact⟨s,hc⟩
theorem mO.at{w:World}{b o:Nat}{l:List bC}(x:mO w (some ⟨b,o,none⟩) l)(i:Nat)(h:i<l.length):∃s,row? w b (o+i*5) 5=some (bz s l[i])∧jA w s l[i]:=by
 obtain⟨b',o',s,ha,hc⟩:=x.get i h;cases ha;exact⟨s,hc⟩
theorem fK.at{w:World}{b o:Nat}{l:List (List UInt8)}(x:fK w (some ⟨b,o,none⟩) l)(i:Nat)(h:i<l.length):∃s:Sl,w.cell? ⟨b,o+i,none⟩=some (.slice s.a l[i].length s.cap)∧BytesAt w s.a l[i]:=by
 obtain⟨b',o',s,ha,hc⟩:=x.get i h;cases ha;exact⟨s,hc⟩
end Go.WW
namespace Go.Proofs.YtfieenjdcpjmgaaGreatDoor
open Go.RowKit Go.WW
def iq(T:TypeId)(parts:Array (Nat×Value)):Sem Next:=do pure (.value (←Instr.build T parts))
theorem acd(w:World)(b o:Nat):(jU 40 (.pointer (some ⟨b,o,none⟩))).run Tryz.prog w=qJ Tryz.prog 40 w b o (row? w b o 2):=uM Tryz.underlying40 rfl (by kernel_rfl) w b o
theorem ace(ρ:Operand→Value)(dst:Option Tmp)(x:Operand)(ty:TypeId)(pos:String)(after:Array Edge)(guard:Option (Nat×Bool)):execOp ρ {dst,op:=.load 40 x,type:=ty,pos,after,guard}=jU 40 (ρ x):=rfl
attribute [go_sem] acd
attribute [go_sem ↓] ace
theorem acf(w:World)(b o:Nat):(jU 69 (.pointer (some ⟨b,o,none⟩))).run Tryz.prog w=qJ Tryz.prog 69 w b o (row? w b o 3):=uM Tryz.underlying69 rfl (by kernel_rfl) w b o
theorem acg(ρ:Operand→Value)(dst:Option Tmp)(x:Operand)(ty:TypeId)(pos:String)(after:Array Edge)(guard:Option (Nat×Bool)):execOp ρ {dst,op:=.load 69 x,type:=ty,pos,after,guard}=jU 69 (ρ x):=rfl
attribute [go_sem] acf
attribute [go_sem ↓] acg
theorem ach(w:World)(b o:Nat):(jU 67 (.pointer (some ⟨b,o,none⟩))).run Tryz.prog w=qJ Tryz.prog 67 w b o (row? w b o 5):=uM Tryz.underlying67 rfl (by kernel_rfl) w b o
theorem aci(ρ:Operand→Value)(dst:Option Tmp)(x:Operand)(ty:TypeId)(pos:String)(after:Array Edge)(guard:Option (Nat×Bool)):execOp ρ {dst,op:=.load 67 x,type:=ty,pos,after,guard}=jU 67 (ρ x):=rfl
attribute [go_sem] ach
attribute [go_sem ↓] aci
theorem acj(w:World)(b o:Nat):(jU 47 (.pointer (some ⟨b,o,none⟩))).run Tryz.prog w=qJ Tryz.prog 47 w b o (row? w b o 17):=uM Tryz.underlying47 rfl (by kernel_rfl) w b o
theorem ack(ρ:Operand→Value)(dst:Option Tmp)(x:Operand)(ty:TypeId)(pos:String)(after:Array Edge)(guard:Option (Nat×Bool)):execOp ρ {dst,op:=.load 47 x,type:=ty,pos,after,guard}=jU 47 (ρ x):=rfl
attribute [go_sem] acj
attribute [go_sem ↓] ack
theorem acm(w:World)(b o:Nat):(jU 50 (.pointer (some ⟨b,o,none⟩))).run Tryz.prog w=qJ Tryz.prog 50 w b o (row? w b o 10):=uM Tryz.underlying50 rfl (by kernel_rfl) w b o
theorem acn(ρ:Operand→Value)(dst:Option Tmp)(x:Operand)(ty:TypeId)(pos:String)(after:Array Edge)(guard:Option (Nat×Bool)):execOp ρ {dst,op:=.load 50 x,type:=ty,pos,after,guard}=jU 50 (ρ x):=rfl
attribute [go_sem] acm
attribute [go_sem ↓] acn
theorem JE(w:World)(b o:Nat)(cs:Array Value)(hn:cs.size=2)(h1:dJ cs=true):(kU 40 (.pointer (some ⟨b,o,none⟩)) (.agg cs)).run Tryz.prog w=sQ Tryz.prog 40 w b o cs (aS w b o 2):=wK (by kernel_rfl) w b o cs hn h1
theorem aco(ρ:Operand→Value)(dst:Option Tmp)(x y:Operand)(ty:TypeId)(pos:String)(after:Array Edge)(guard:Option (Nat×Bool)):execOp ρ {dst,op:=.store 40 x y,type:=ty,pos,after,guard}=kU 40 (ρ x) (ρ y):=rfl
attribute [go_sem] JE
attribute [go_sem ↓] aco
theorem acp(w:World)(b o:Nat)(cs:Array Value)(hn:cs.size=3)(h1:dJ cs=true):(kU 69 (.pointer (some ⟨b,o,none⟩)) (.agg cs)).run Tryz.prog w=sQ Tryz.prog 69 w b o cs (aS w b o 3):=wK (by kernel_rfl) w b o cs hn h1
theorem acr(ρ:Operand→Value)(dst:Option Tmp)(x y:Operand)(ty:TypeId)(pos:String)(after:Array Edge)(guard:Option (Nat×Bool)):execOp ρ {dst,op:=.store 69 x y,type:=ty,pos,after,guard}=kU 69 (ρ x) (ρ y):=rfl
attribute [go_sem] acp
attribute [go_sem ↓] acr
theorem acs(w:World)(b o:Nat)(cs:Array Value)(hn:cs.size=5)(h1:dJ cs=true):(kU 67 (.pointer (some ⟨b,o,none⟩)) (.agg cs)).run Tryz.prog w=sQ Tryz.prog 67 w b o cs (aS w b o 5):=wK (by kernel_rfl) w b o cs hn h1
theorem acu(ρ:Operand→Value)(dst:Option Tmp)(x y:Operand)(ty:TypeId)(pos:String)(after:Array Edge)(guard:Option (Nat×Bool)):execOp ρ {dst,op:=.store 67 x y,type:=ty,pos,after,guard}=kU 67 (ρ x) (ρ y):=rfl
attribute [go_sem] acs
attribute [go_sem ↓] acu
theorem acv(w:World)(b o:Nat)(cs:Array Value)(hn:cs.size=17)(h1:dJ cs=true):(kU 47 (.pointer (some ⟨b,o,none⟩)) (.agg cs)).run Tryz.prog w=sQ Tryz.prog 47 w b o cs (aS w b o 17):=wK (by kernel_rfl) w b o cs hn h1
theorem acw(ρ:Operand→Value)(dst:Option Tmp)(x y:Operand)(ty:TypeId)(pos:String)(after:Array Edge)(guard:Option (Nat×Bool)):execOp ρ {dst,op:=.store 47 x y,type:=ty,pos,after,guard}=kU 47 (ρ x) (ρ y):=rfl
attribute [go_sem] acv
attribute [go_sem ↓] acw
theorem acx(w:World)(b o:Nat)(cs:Array Value)(hn:cs.size=10)(h1:dJ cs=true):(kU 50 (.pointer (some ⟨b,o,none⟩)) (.agg cs)).run Tryz.prog w=sQ Tryz.prog 50 w b o cs (aS w b o 10):=wK (by kernel_rfl) w b o cs hn h1
theorem acy(ρ:Operand→Value)(dst:Option Tmp)(x y:Operand)(ty:TypeId)(pos:String)(after:Array Edge)(guard:Option (Nat×Bool)):execOp ρ {dst,op:=.store 50 x y,type:=ty,pos,after,guard}=kU 50 (ρ x) (ρ y):=rfl
attribute [go_sem] acx
attribute [go_sem ↓] acy
end Go.Proofs.YtfieenjdcpjmgaaGreatDoor
namespace Go.Proofs
theorem Tryz.stringslite_IndexByte(s:ByteArray)(c:Int)(w:World) :
  Calls Tryz.prog 288 #[.string s,.int .u8 c] w fun e w'=>e=.returned (.int .i64 (Lib.indexByte s.data.toList c.toNat.toUInt8))∧w'=w:=by
 go_enter Tryz.func288,Tryz.ntmps288
 go_wp2
 rw[run_callFunc_extern Tryz.func350 (by kernel_rfl) (by kernel_rfl) (by kernel_rfl) (e:=Extern.BytealgIndexByte.indexByte) (by kernel_rfl),Lib.run_indexByteString]
 simp only[Result.andThen]
 rw[Oper.upon_value]
 go_wp2
 go_ret
 exact⟨rfl,rfl⟩
theorem Tryz.stringslite_Index_one(s:ByteArray)(c:UInt8)(w:World) :
  Calls Tryz.prog 222 #[.string s,.string ⟨#[c]⟩] w fun e w'=>e=.returned (.int .i64 (Lib.indexByte s.data.toList c))∧w'=w:=by
 go_enter Tryz.func222,Tryz.ntmps222
 go_wp2_with (go_at_call 288;refine(Tryz.stringslite_IndexByte _ _ _).mono ?_;rintro e w' ⟨rfl,rfl⟩)
 ·have h:([c] == s.toList)=true:=by assumption
  go_ret
  refine⟨?_,rfl⟩
  have e:s.data.toList=[c]:=by rw[←Lib.toList_data];exact(beq_iff_eq.1 h).symm
  rw[e]
  simp[Lib.indexByte]
 ·go_ret
  exact⟨rfl,rfl⟩
theorem Tryz.strings_Index_one(s:ByteArray)(c:UInt8)(w:World) :
  Calls Tryz.prog 212 #[.string s,.string ⟨#[c]⟩] w fun e w'=>e=.returned (.int .i64 (Lib.indexByte s.data.toList c))∧w'=w:=by
 go_enter Tryz.func212,Tryz.ntmps212
 go_wp2_with (go_at_call 222;refine(Tryz.stringslite_Index_one _ _ _).mono ?_;rintro e w' ⟨rfl,rfl⟩)
 go_ret
 exact⟨rfl,rfl⟩
end Go.Proofs
namespace Go.WW
open Go.RowKit
def QW{α:Type}(F:Fence)(n:Nat)(P:Program)(g:Nat)(lb:Array Value)(encs:α→Array Value)(bs B:Nat)(ok:α→Prop)(S Sp:List α→Prop)(w:World):Prop:=
 ∀(l:Nat) (J Jx:List α→World→Prop) (W:World),Below B w W→
  (∀pre W1 v,J pre W1→J pre (W1.setCell ⟨bs,0,none⟩ v))→
  (∀pre x W1,ok x→J pre W1→YieldAt F (n-1) P l (encs x) W1 fun e W'=>
   (e=.returned (.bool true)∧J (pre++[x]) W'∧Below B W1 W')∨(e=.returned (.bool false)∧Jx (pre++[x]) W'))→
  J [] W→
  CallsIn F n P g (#[.func (.yield l) #[] #[]]++lb) W fun e W'=>(∃v,e=.returned v)∧((∃xs,S xs∧J xs W')∨(∃pre,Sp pre∧Jx pre W'))
def QX{α:Type}(B:Nat)(I Ix:List α→World→Prop)(xs:List α)(W:World):Exit→Act→World→Prop
 | .normal,_,W'=>KeepsOthers W W'∧Below B W W'∧I xs W'
 | .ret,_,W'=>KeepsOthers W W'∧Ix xs W'
 |_,_,_=>False
variable {F:Fence} {n:Nat} {P:Program}
theorem acz{α:Type}{g:Operand}{ps:Array Tmp}{assign body:Code}{Q:Exit→Act→World→Prop}{a:Act}{w:World}
  (hro:F.round=none) (h1:1≤n) {gf:Nat} {lb:Array Value} (hg:a.eval g=.func (.func gf) #[] lb) (hFg:F.fn gf) (eg:∀args w,(callFunc gf args).run P w=.ok (.enter gf args) w)
  {encs:α→Array Value} {bs:Nat} {ok:α→Prop} {S Sp:List α→Prop} (hseq:QW F (n-1) P gf lb encs bs w.heap.size ok S Sp w) (hbs:bs<w.heap.size) (hps:∀x,(encs x).size=ps.size)
  (I Ix:List α→World→Prop) (hI:OwnFrom w.heap.size I) (hIs:∀s W v,I s W→I s (W.setCell ⟨bs,0,none⟩ v)) (hIx:OwnFrom w.heap.size Ix) (h0:I [] w) (a₁:α→Act)
  (hassign:∀(l:Nat) (x:α) (W:World) (K:Act→World→Prop),K (a₁ x) W→
   assign.wpIn (F.inRound l) (n-1-1) P (Exit.then K (fun _ _ _=>False)) {tmps:=(ps.zip (encs x)).foldl (fun t (p,v)=>t.setIfInBounds p v) a.tmps,defers:=[]} W)
  (hbody:∀(l:Nat) (pre:List α) (x:α) (W:World),ok x→I pre W→body.wpIn (F.inRound l) (n-1-1) P (QX w.heap.size I Ix (pre++[x]) W) (a₁ x) W)
  (hdone:∀(D:Nat) (xs:List α) (W:World),w.heap.size≤D→S xs→I xs W→W.heap[D]?=some (.deferred (some []))→Q .normal {a with defers:={target:=.collected D,args:=#[]}::a.defers} W)
  (hstop:∀(D:Nat) (pre:List α) (W:World),w.heap.size≤D→Sp pre→Ix pre W→W.heap[D]?=some (.deferred (some []))→Code.ret.wpIn F n P Q {a with defers:={target:=.collected D,args:=#[]}::a.defers} W) :
  (Code.rangeFunc g ps assign body).wpIn F n P Q a w:=by
 refine wpIn_rangeFunc ?_
 intro fn hfn
 rw[hro]
 obtain⟨lp,hlp⟩:∃lp:LoopState→Option Code→Loop,lp=fun st pe=>{state:=st,pending:=pe,fn,tmps:=a.tmps,params:=ps,assign,body,defers:=w.heap.size}:=⟨_,rfl⟩
 obtain⟨V,hV⟩:∃V,(w.alloc (.deferred (some []))).alloc (.loop (lp .ready none))=V:=⟨_,rfl⟩
 have hL:V.heap[w.heap.size+1]?=some (.loop (lp .ready none)):=by
  have:=World.alloc_heap_new (w.alloc (.deferred (some []))) (.loop (lp .ready none))
  rw[World.size_alloc,hV]at this;exact this
 have hD:V.heap[w.heap.size]?=some (.deferred (some [])):=by
  rw[←hV];exact(Below.heap_alloc _ _ _ (by simp)).trans (World.alloc_heap_new w _)
 have hB:Below w.heap.size w V:=by
  rw[←hV];exact((Below.refl _ w).alloc (Nat.le_refl _) _).alloc (by simp) _
 refine⟨w.heap.size+1,[{target:=.collected w.heap.size,args:=#[]}],V,{target:=.fn (.func gf) lb,args:=#[.func (.yield (w.heap.size+1)) #[] #[]]},V,gf,
  #[.func (.yield (w.heap.size+1)) #[] #[]]++lb,V,?_,?_,?_,?_,fun _=>h1,?_⟩
 ·rw[←hV,hlp];exact run_enterLoop_outer _ _ _ _ _
 ·simp only[resolve,hg];simp[go_sem]
 ·intro f' hf';simp[Target.leads]at hf';subst hf';exact hFg
 ·simp[invoke,go_sem,eg]
 ·refine(hseq (w.heap.size+1)
   (fun pre W=>I pre W∧W.heap[w.heap.size+1]?=some (.loop (lp .ready none))∧W.heap[w.heap.size]?=some (.deferred (some [])))
   (fun pre W=>Ix pre W∧W.heap[w.heap.size+1]?=some (.loop (lp .done (some .ret)))∧W.heap[w.heap.size]?=some (.deferred (some [])))
   V hB
   (fun pre W1 v hs=>⟨hIs _ _ _ hs.1,(Below.heap_setCell _ _ _ _ (by simp;omega)).trans hs.2.1,(Below.heap_setCell _ _ _ _ (by simp;omega)).trans hs.2.2⟩)
   ?_ ⟨by rw[←hV];exact hI.alloc _ (hI.alloc _ h0),hL,hD⟩).mono ?_
  ·rintro pre x W hx ⟨hi,hl,hk⟩
   have hlt:w.heap.size+1<W.heap.size:=(Array.getElem?_eq_some_iff.1 hl).1
   have hy:=run_yield (P:=P) (args:=encs x) hl (by rw[hlp];exact hps x)
   rw[hlp]at hy
   refine⟨fn,_,assign,body,hy,roundIn_of_wpIn hfn (hassign _ x W _ ⟨_,run_beginRound hl (by rw[hlp]),?_⟩)⟩
   obtain⟨U,hU⟩:∃U,W.putObj (w.heap.size+1) (.loop {lp .ready none with state:=.busy})=U:=⟨_,rfl⟩
   have hl2:U.heap[w.heap.size+1]?=some (.loop {lp .ready none with state:=.busy}):=by rw[←hU];exact World.putObj_heap_same hlt
   have hk2:U.heap[w.heap.size]?=some (.deferred (some [])):=by rw[←hU];exact(World.putObj_heap_other (by omega)).trans hk
   have hw2:Below w.heap.size W U:=by rw[←hU];exact belowK_b (w:=w) (Nat.le_refl _) _ _ _ _ (by omega) hl rfl rfl
   have hi2:I pre U:=by rw[←hU];exact hI.putObj _ hi (by omega) hl rfl
   rw[hU]
   refine wpIn_mono (hbody _ pre x _ hx hi2) ?_
   have over:∀(jump:Option Code) (X:World),KeepsOthers U X→
     (Instr.endRound (w.heap.size+1) jump).run P X=.ok (.bool jump.isNone) (X.putObj (w.heap.size+1) (.loop (lp (if jump.isNone then .ready else .done) jump)))∧
     X.heap[w.heap.size+1]?=some (.loop {lp .ready none with state:=.busy})∧
     (X.putObj (w.heap.size+1) (.loop (lp (if jump.isNone then .ready else .done) jump))).heap[w.heap.size+1]?=some (.loop (lp (if jump.isNone then .ready else .done) jump))∧
     (X.putObj (w.heap.size+1) (.loop (lp (if jump.isNone then .ready else .done) jump))).heap[w.heap.size]?=some (.deferred (some [])):=fun jump X hX=>by
    have hl3:=hX.same _ _ hl2 rfl
    have hr:=run_endRound (P:=P) jump hl3
    rw[hlp]at hr ⊢
    exact⟨hr,by rw[hlp]at hl3;exact hl3,World.putObj_heap_same (Array.getElem?_eq_some_iff.1 hl3).1,(World.putObj_heap_other (by omega)).trans (hX.same _ _ hk2 rfl)⟩
   rintro e a3 X hp
   cases e with
   |normal=>
    obtain⟨hX,hbX,qO⟩:=hp
    obtain⟨hr,hl3,hl4,hk4⟩:=over none X hX
    exact⟨_,_,hr,.inl ⟨rfl,⟨hI.putObj _ qO (by omega) hl3 rfl,hl4,hk4⟩,(hw2.trans hbX).trans (belowK_b (w:=w) (Nat.le_refl _) _ _ _ _ (by omega) hl3 rfl rfl)⟩⟩
   |ret=>
    obtain⟨hX,qO⟩:=hp
    obtain⟨hr,hl3,hl4,hk4⟩:=over (some .ret) X hX
    exact⟨_,_,hr,.inr ⟨rfl,hIx.putObj _ qO (by omega) hl3 rfl,hl4,hk4⟩⟩
   |exit id=>exact hp.elim
   |goto t=>exact hp.elim
   |panic ch=>exact hp.elim
   |outgrown=>exact hp.elim
  ·rintro e X ⟨⟨v,rfl⟩,(⟨xs,hS,hi,hl,hk⟩|⟨pre,hSp,hi,hl,hk⟩)⟩
   ·exact⟨none,_,by have:=run_endLoop (P:=P) hl (by rw[hlp];simp);rw[hlp]at this;exact this,hdone _ xs _ (Nat.le_refl _) hS (hI.putObj _ hi (by omega) hl rfl) ((World.putObj_heap_other (by omega)).trans hk)⟩
   ·exact⟨some .ret,_,by have:=run_endLoop (P:=P) hl (by rw[hlp];simp);rw[hlp]at this;exact this,hstop _ pre _ (Nat.le_refl _) hSp (hIx.putObj _ hi (by omega) hl rfl) ((World.putObj_heap_other (by omega)).trans hk)⟩
end Go.WW
namespace Go.WW
def aF(v lo hi:Int):Bool:=decide (lo≤v)&&decide (v≤hi)
theorem FC{v lo hi:Int}:aF v lo hi=true↔lo≤v∧v≤hi:=by simp[aF]
def acA(t:Int):Bool:=aF t 0 1099511627776
end Go.WW
namespace Go.Proofs.YtfieenjdcpjmgaaGreatDoor
open Go.RowKit Go.WW
theorem uO(v lo hi:Int)(w:World):Calls Tryz.prog 118 #[.int .i64 v,.int .i64 lo,.int .i64 hi] w fun e w'=>e=.returned (.bool (aF v lo hi))∧w=w':=by
 go_enter Tryz.func118,Tryz.ntmps118
 go_wp2
 all_goals go_ret
 all_goals exact⟨by first|(simp[aF, *];done)|(simp[aF];omega),rfl⟩
theorem wM(v lo hi:Int)(w:World):Calls Tryz.prog 136 #[.int .i64 v,.int .i64 lo,.int .i64 hi] w fun e w'=>e=.returned (.bool (aF v lo hi))∧w=w':=by
 go_enter Tryz.func136,Tryz.ntmps136
 go_wp2
 all_goals go_ret
 all_goals exact⟨by first|(simp[aF, *];done)|(simp[aF];omega),rfl⟩
theorem QY(v lo hi:Int)(w:World):Calls Tryz.prog 146 #[.int .i64 v,.int .i64 lo,.int .i64 hi] w fun e w'=>e=.returned (.bool (aF v lo hi))∧w=w':=by
 go_enter Tryz.func146,Tryz.ntmps146
 go_wp2
 all_goals go_ret
 all_goals exact⟨by first|(simp[aF, *];done)|(simp[aF];omega),rfl⟩
theorem qQ(v lo hi:Int)(w:World):Calls Tryz.prog 142 #[.int .i64 v,.int .i64 lo,.int .i64 hi] w fun e w'=>e=.returned (.bool (aF v lo hi))∧w=w':=by
 go_enter Tryz.func142,Tryz.ntmps142
 go_wp2
 all_goals go_ret
 all_goals exact⟨by first|(simp[aF, *];done)|(simp[aF];omega),rfl⟩
end Go.Proofs.YtfieenjdcpjmgaaGreatDoor
namespace Go.WW
def sW(c:UInt8):Bool:=decide (33≤(c.toNat:Int))&&decide ((c.toNat:Int)≤126)
def visible(s:ByteArray):Bool:=s.data.toList.all sW
def sized(s:ByteArray):Bool:=decide (1≤(s.size:Int))&&decide ((s.size:Int)≤32)
def jF(s:ByteArray):Bool:=visible s&&sized s
theorem FD(s:ByteArray)(k:Nat)(h:k<s.size):s.data.toList[k]?=some s[k]:=by
 have h':k<s.data.size:=h
 rw[Array.getElem?_toList,Array.getElem?_eq_getElem h'];rfl
theorem oN{p:UInt8→Bool}(s:ByteArray)(k:Nat)(h:k<s.size)(h1:(s.data.toList.take k).all p=true)(h2:p s[k]=true):(s.data.toList.take (k+1)).all p=true:=by
 rw[List.take_succ_eq_append_getElem (by simpa using h),List.all_append,h1]
 have:s.data.toList[k]=s[k]:=rfl
 simp[this,h2]
theorem Ci{p:UInt8→Bool}(s:ByteArray)(k:Nat)(h:k<s.size)(h2:p s[k]=false):s.data.toList.all p=false:=by
 rw[List.all_eq_false]
 exact⟨s[k],List.mem_of_getElem? (FD s k h),by simp[h2]⟩
theorem Cj{p:UInt8→Bool}(s:ByteArray)(k:Nat)(h:s.size≤k)(h1:(s.data.toList.take k).all p=true):s.data.toList.all p=true:=by
 rwa[List.take_of_length_le (by simpa using h)]at h1
end Go.WW
namespace Go.Proofs.YtfieenjdcpjmgaaGreatDoor
open Go.RowKit Go.WW
theorem JF(s:ByteArray)(w:World)(hs:s.size≤maxLen):Calls Tryz.prog 143 #[.string s] w fun e w'=>e=.returned (.bool (visible s))∧w=w':=by
 unfold maxLen at hs
 go_enter Tryz.func143,Tryz.ntmps143
 go_wp2
 go_loop [3] (fun i=>∃k:Nat,k≤s.size∧i=.int .i64 k∧Hid ((s.data.toList.take k).all sW=true)) (fun i=>s.size-(intOf i).toNat)
 case atStart=>exact⟨0,Nat.zero_le _,rfl,by simp[Hid]⟩
 case round=>
  obtain⟨k,hk,rfl,hall⟩:=hrel
  by_cases hlt:k<s.size
  ·go_wp2
   all_goals first
    |(go_ret;exact⟨by rw[show visible s=false from Ci s k hlt (by simp[sW];omega)];rfl,rfl⟩)
    |(go_round
      case rel=>exact⟨k+1,by omega,by go_num,oN s k hlt hall.out (by simp[sW];omega)⟩
      case measure=>simp[intOf];omega)
  ·go_wp2
   go_ret
   exact⟨by rw[show visible s=true from Cj s k (by omega) hall.out];rfl,rfl⟩
theorem JG(s:ByteArray)(w:World)(hs:s.size≤maxLen):Calls Tryz.prog 74 #[.string s] w fun e w'=>e=.returned (.bool (sized s))∧w=w':=by
 unfold maxLen at hs
 go_enter Tryz.func74,Tryz.ntmps74
 go_wp2
 all_goals go_ret
 all_goals exact⟨by first|(simp[sized, *];done)|(simp[sized];omega),rfl⟩
theorem QZ(s:ByteArray)(w:World)(hs:s.size≤maxLen):Calls Tryz.prog 277 #[.string s] w fun e w'=>e=.returned (.bool (jF s))∧w=w':=by
 have hs':=hs
 unfold maxLen at hs
 go_enter Tryz.func277,Tryz.ntmps277
 go_wp2
 go_loop [6] (fun i=>∃k:Nat,k≤s.size∧i=.int .i64 k∧Hid ((s.data.toList.take k).all sW=true)) (fun i=>s.size-(intOf i).toNat)
 case atStart=>exact⟨0,Nat.zero_le _,rfl,by simp[Hid]⟩
 case round=>
  obtain⟨k,hk,rfl,hall⟩:=hrel
  by_cases hlt:k<s.size
  ·go_wp2
   all_goals first
    |(go_ret;exact⟨by rw[show jF s=false from by rw[jF,show visible s=false from Ci s k hlt (by simp[sW];omega)];rfl];rfl,rfl⟩)
    |(go_round
      case rel=>exact⟨k+1,by omega,by go_num,oN s k hlt hall.out (by simp[sW];omega)⟩
      case measure=>simp[intOf];omega)
  ·go_wp2_with (go_at_call 74;refine(JG _ _ hs').mono ?_;rintro e w' ⟨rfl,rfl⟩)
   go_ret
   exact⟨by rw[show jF s=sized s from by rw[jF,show visible s=true from Cj s k (by omega) hall.out];rfl];rfl,rfl⟩
theorem acB(s:ByteArray)(w:World)(hs:s.size≤maxLen):Calls Tryz.prog 121 #[.string s] w fun e w'=>e=.returned (.bool (visible s&&decide ((s.size:Int)≤32)))∧w=w':=by
 unfold maxLen at hs
 go_enter Tryz.func121,Tryz.ntmps121
 go_wp2
 go_loop [6] (fun i=>∃k:Nat,k≤s.size∧i=.int .i64 k∧Hid ((s.data.toList.take k).all sW=true)) (fun i=>s.size-(intOf i).toNat)
 case atStart=>exact⟨0,Nat.zero_le _,rfl,by simp[Hid]⟩
 case round=>
  obtain⟨k,hk,rfl,hall⟩:=hrel
  by_cases hlt:k<s.size
  ·go_wp2
   all_goals first
    |(go_ret;exact⟨by rw[show visible s=false from Ci s k hlt (by simp[sW];omega)];rfl,rfl⟩)
    |(go_round
      case rel=>exact⟨k+1,by omega,by go_num,oN s k hlt hall.out (by simp[sW];omega)⟩
      case measure=>simp[intOf];omega)
  ·go_wp2
   all_goals go_ret
   all_goals exact⟨by rw[show visible s=true from Cj s k (by omega) hall.out];first|rfl|(simp;done)|(simp;omega),rfl⟩
end Go.Proofs.YtfieenjdcpjmgaaGreatDoor
namespace Go.WW
def oO(c:UInt8):Bool:=(c.toNat:Int) == 46 || (c.toNat:Int) == 45 || (decide (65≤(c.toNat:Int))&&decide ((c.toNat:Int)≤90)) || (decide (48≤(c.toNat:Int))&&decide ((c.toNat:Int)≤57))
def gB(c:UInt8):Bool:=(c.toNat:Int) == 46
def mP(s:ByteArray)(i:Nat):Bool:=
 match s.data.toList[i]? with
 |none=>true
 |some c=>oO c&&!(gB c&&(i == 0 || i+1 == s.size || (s.data.toList[i-1]?).any gB))
def gU(s:ByteArray):Bool:=(List.range s.size).all (mP s)&&sized s
def bG(p:az):Bool:=p.parts.all jF&&decide (1≤(p.parts.length:Int))&&decide ((p.parts.length:Int)≤4)&&gU p.aG
def aY(p q:az):Bool:=decide (p.aG=q.aG)&&decide (p.parts=q.parts)
theorem le_max{n:Nat}(h:n≤lim):n≤maxLen:=by unfold lim at h;unfold maxLen;omega
theorem kW{α:Type}{p:α→Bool}(l:List α)(k:Nat)(h:k<l.length)(h1:(l.take k).all p=true)(h2:p l[k]=true):(l.take (k+1)).all p=true:=by
 rw[List.take_succ_eq_append_getElem h,List.all_append,h1];simp[h2]
theorem qR{α:Type}{p:α→Bool}(l:List α)(k:Nat)(h:k<l.length)(h2:p l[k]=false):l.all p=false:=by
 rw[List.all_eq_false];exact⟨l[k],List.getElem_mem h,by simp[h2]⟩
theorem qU{α:Type}{p:α→Bool}(l:List α)(k:Nat)(h:l.length≤k)(h1:(l.take k).all p=true):l.all p=true:=by
 rwa[List.take_of_length_le h]at h1
theorem JH(s:ByteArray)(k:Nat)(h:k<s.size):mP s k=(oO s[k]&&!(gB s[k]&&(k == 0 || k+1 == s.size || (s.data.toList[k-1]?).any gB))):=by
 unfold mP;rw[FD s k h]
theorem FH(s:ByteArray)(k:Nat)(h:k<s.size)(hn:mP s k=false):gU s=false:=by
 have:(List.range s.size).all (mP s)=false:=by rw[List.all_eq_false];exact⟨k,List.mem_range.2 h,by simp[hn]⟩
 rw[gU,this];rfl
theorem FI(s:ByteArray)(k:Nat)(h:(List.range k).all (mP s)=true)(hn:mP s k=true):(List.range (k+1)).all (mP s)=true:=by
 rw[List.range_succ,List.all_append,h];simp[hn]
theorem acC(s:ByteArray)(k:Nat)(hk:k=s.size)(h:(List.range k).all (mP s)=true):gU s=sized s:=by
 subst hk;rw[gU,h];rfl
theorem acD(c:Int):c=46∨c=45∨(65≤c∧c≤90)∨(48≤c∧c≤57)∨c<45∨c=47∨(57<c∧c<65)∨90<c:=by omega
theorem Cm{c:UInt8}(h:(c.toNat:Int)=46∨(c.toNat:Int)=45∨(65≤(c.toNat:Int)∧(c.toNat:Int)≤90)∨(48≤(c.toNat:Int)∧(c.toNat:Int)≤57)):oO c=true:=by
 unfold oO;simp;omega
theorem acE{c:UInt8}(h:(c.toNat:Int)<45∨(c.toNat:Int)=47∨(57<(c.toNat:Int)∧(c.toNat:Int)<65)∨90<(c.toNat:Int)):oO c=false:=by
 unfold oO;simp;omega
theorem FK{c:UInt8}(h:¬(c.toNat:Int)=46):gB c=false:=by unfold gB;simpa using h
theorem Q3{c:UInt8}(h:(c.toNat:Int)=46):gB c=true:=by unfold gB;simpa using h
theorem acF{s:ByteArray}{k:Nat}(hk:k<s.size)(h:oO s[k]=false):mP s k=false:=by rw[JH s k hk,h];rfl
theorem JI{s:ByteArray}{k:Nat}(hk:k<s.size)(h:oO s[k]=true)(h':gB s[k]=false):mP s k=true:=by rw[JH s k hk,h,h'];rfl
theorem acG{s:ByteArray}{k:Nat}(hk:k<s.size)(h':gB s[k]=true):mP s k=!(k == 0 || k+1 == s.size || (s.data.toList[k-1]?).any gB):=by
 have:oO s[k]=true:=Cm (.inl (by unfold gB at h';simpa using h'))
 rw[JH s k hk,this,h'];rfl
theorem JJ{s:ByteArray}(h:((s.size:Int)<1∨32<(s.size:Int))∨(!visible s)=true):jF s=false:=by
 unfold jF sized
 rcases h with h|h
 ·have:(decide (1≤(s.size:Int))&&decide ((s.size:Int)≤32))=false:=by simp;omega
  rw[this];simp
 ·have:visible s=false:=by simpa using h
  rw[this];rfl
theorem acH{s:ByteArray}(h:32<(s.size:Int)):jF s=false:=JJ (.inl (.inr h))
theorem acI{s:ByteArray}(h:(s.size:Int)<1):jF s=false:=JJ (.inl (.inl h))
theorem acJ{s:ByteArray}(h:(1≤(s.size:Int)∧(s.size:Int)≤32)∧(!visible s)=false):jF s=true:=by
 have:visible s=true:=by simpa using h.2
 unfold jF sized;rw[this];simp[h.1]
theorem Q4{p:az}(k:Nat)(hlt:k<p.parts.length)(h:jF p.parts[k]=false):bG p=false:=by rw[bG,qR p.parts k hlt h];rfl
theorem acK{p:az}(h:p.parts.all jF=true)(h1:1≤(p.parts.length:Int))(h2:(p.parts.length:Int)≤4):bG p=gU p.aG:=by simp[bG,h,h1,h2]
theorem acL{p:az}(h2:4<(p.parts.length:Int)):bG p=false:=by
 have:decide ((p.parts.length:Int)≤4)=false:=by simp;omega
 simp[bG,this]
theorem acM{p:az}(h2:(p.parts.length:Int)<1):bG p=false:=by
 have:decide (1≤(p.parts.length:Int))=false:=by simp;omega
 simp[bG,this]
end Go.WW
namespace Go.Proofs.YtfieenjdcpjmgaaGreatDoor
open Go.RowKit Go.WW
theorem JK(s:ByteArray)(w:World)(hs:s.size≤lim):Calls Tryz.prog 32 #[.string s] w fun e w'=>e=.returned (.bool (gU s))∧w=w':=by
 have hs':s.size≤4294967000:=hs
 go_enter Tryz.func32,Tryz.ntmps32
 go_wp2
 go_loop [3] (fun i=>∃k:Nat,k≤s.size∧i=.int .i64 k∧Hid ((List.range k).all (mP s)=true)) (fun i=>s.size-(intOf i).toNat)
 case atStart=>exact⟨0,Nat.zero_le _,rfl,by simp[Hid]⟩
 case round=>
  obtain⟨k,hk,rfl,hall⟩:=hrel
  by_cases hlt:k<s.size
  ·have hall':=hall;clear hall
   rcases acD (s[k].toNat:Int)with hc|hc|⟨hc1,hc2⟩|⟨hc1,hc2⟩|hc|hc|⟨hc1,hc2⟩|hc
   ·have HD:=Q3 hc
    have HA:=Lib.hid (acG hlt HD)
    clear HD
    have hb:((s[k].toNat:Int) == 46)=true:=by simp[hc]
    have hb':((s[k].toNat:Int) != 46)=false:=by simp[hc]
    clear hc
    by_cases h0:k=0
    ·subst h0
     go_wp2
     go_ret
     exact⟨by rw[FH s 0 hlt (by rw[HA.out];rfl)];rfl,rfl⟩
    ·have h0':((k:Int) == 0)=false:=by simp;omega
     by_cases h1:k+1=s.size
     ·have h1':((k:Int) == (s.size:Int)-1)=true:=by simp;omega
      have H1:=Lib.hid h1
      clear h1
      go_wp2
      go_ret
      exact⟨by rw[FH s k hlt (by rw[HA.out,H1.out];simp)];rfl,rfl⟩
     ·obtain⟨j,rfl⟩:∃j,k=j+1:=⟨k-1,by omega⟩
      have hj:j<s.size:=by omega
      have apG:((j:Int)+1 == 0)=false:=by simp;omega
      have h1':((j:Int)+1 == (s.size:Int)-1)=false:=by simp;omega
      have H1:=Lib.hid h1
      clear h1 h0 h0'
      by_cases h2:(s[j].toNat:Int)=46
      ·have h2':((s[j].toNat:Int) == 46)=true:=by simp[h2]
       have HJ:=Lib.hid (Q3 h2)
       clear h2
       go_wp2
       go_ret
       exact⟨by rw[FH s (j+1) hlt (by rw[HA.out];simp[FD s j hj,HJ.out])];rfl,rfl⟩
      ·have h2':((s[j].toNat:Int) == 46)=false:=by simp[h2]
       have HJ:=Lib.hid (FK h2)
       clear h2
       have HS:=Lib.hid (FI s (j+1) hall'.out (by rw[HA.out];simp[FD s j hj,HJ.out,H1.out]))
       go_wp2
       go_round
       case rel=>exact⟨j+1+1,by omega,by go_num,HS.out⟩
       case measure=>simp[intOf];omega
   ·have HA:=Lib.hid (JI hlt (Cm (.inr (.inl hc))) (FK (by omega)))
    go_wp2
    go_round
    case rel=>exact⟨k+1,by omega,by go_num,FI s k hall'.out HA.out⟩
    case measure=>simp[intOf];omega
   ·have HA:=Lib.hid (JI hlt (Cm (.inr (.inr (.inl ⟨hc1,hc2⟩)))) (FK (by omega)))
    go_wp2
    go_round
    case rel=>exact⟨k+1,by omega,by go_num,FI s k hall'.out HA.out⟩
    case measure=>simp[intOf];omega
   ·have HA:=Lib.hid (JI hlt (Cm (.inr (.inr (.inr ⟨hc1,hc2⟩)))) (FK (by omega)))
    go_wp2
    go_round
    case rel=>exact⟨k+1,by omega,by go_num,FI s k hall'.out HA.out⟩
    case measure=>simp[intOf];omega
   all_goals
    have HA:=Lib.hid (FH s k hlt (acF hlt (acE (by omega))))
    have b1:((s[k].toNat:Int) == 46)=false:=by simp;omega
    have b2:((s[k].toNat:Int) != 46)=true:=by simp;omega
    have b3:((s[k].toNat:Int) != 45)=true:=by simp;omega
    first|(have b4:decide ((s[k].toNat:Int)≤57)=false:=(by simp;omega))|skip
    first|(have b5:decide ((s[k].toNat:Int)≤90)=false:=(by simp;omega))|skip
    go_wp2
    go_ret
    exact⟨by rw[HA.out];rfl,rfl⟩
  ·have HE:=Lib.hid (acC s k (by omega) hall.out)
   go_wp2
   all_goals go_ret
   all_goals exact⟨by rw[HE.out];first|rfl|(simp[sized, *];done)|(simp[sized];omega),rfl⟩
theorem Af(s:Sl)(p:az)(w:World)(hp:bn w s p):Calls Tryz.prog 139 #[.agg (ah s p)] w fun e w'=>e=.returned (.bool (bG p))∧Below w.heap.size w w':=by
 have hl:p.parts.length≤4294967000:=hp.1.1
 go_enter Tryz.func139,Tryz.ntmps139
 go_wp2
 go_loop [3] (fun i=>∃k:Nat,k≤p.parts.length∧i=.int .i64 k∧Hid ((p.parts.take k).all jF=true)) (fun i=>p.parts.length-(intOf i).toNat)
 case atStart=>exact⟨0,Nat.zero_le _,rfl,by simp[Hid]⟩
 case round=>
  obtain⟨k,hk,rfl,hall⟩:=hrel
  by_cases hlt:k<p.parts.length
  ·obtain⟨b,o,ha,hc,hsz⟩:=hp.1.get k hlt
   have hb:b<w.heap.size:=World.block_lt_of_cell? w _ hc
   go_wp2_with (go_at_call 143;refine(JF _ _ (le_max hsz)).mono ?_;rintro e w' ⟨rfl,rfl⟩)
   all_goals first
    |(go_ret
      have hno:jF p.parts[k]=false:=by first|exact JJ ‹_›|exact acH ‹_›|exact acI ‹_›
      exact⟨by rw[Q4 k hlt hno];rfl,(Below.refl _ _).alloc (Nat.le_refl _) _⟩)
    |(go_round
      case rel=>exact⟨k+1,by omega,by go_num,kW p.parts k hlt hall.out (acJ ‹_›)⟩
      case measure=>simp[intOf];omega)
  ·have hy:=qU p.parts k (by omega) hall.out
   have HY:Hid (p.parts.all jF=true):=hy
   clear hy
   go_wp2_with (go_at_call 32;refine(JK _ _ hp.2).mono ?_;rintro e w' ⟨rfl,rfl⟩)
   all_goals go_ret
   all_goals exact⟨by first|(rw[acK HY.out ‹_› ‹_›];rfl)|(rw[acL ‹_›];rfl)|(rw[acM ‹_›];rfl),(Below.refl _ _).alloc (Nat.le_refl _) _⟩
end Go.Proofs.YtfieenjdcpjmgaaGreatDoor
namespace Go.WW
theorem str_eq(a b:ByteArray)(h:a=b):(a.toList == b.toList)=true:=by subst h;simp
theorem lu(a b:ByteArray)(h:¬a=b):(a.toList == b.toList)=false:=by
 rw[ByteArray.toList_eq,ByteArray.toList_eq,beq_eq_false_iff_ne]
 exact fun e=>h (WideShapes.bytes_inj e)
theorem acN{p q:az}(h:¬p.aG=q.aG):aY p q=false:=by simp[aY,h]
theorem acO{p q:az}(h:¬p.parts.length=q.parts.length):aY p q=false:=by
 have:decide (p.parts=q.parts)=false:=by simp;intro e;exact h (by rw[e])
 simp[aY,this]
theorem acP{p q:az}(k:Nat)(h1:k<p.parts.length)(h2:k<q.parts.length)(h:¬p.parts[k]=q.parts[k]):aY p q=false:=by
 have:decide (p.parts=q.parts)=false:=by simp;intro e;exact h (by simp[e])
 simp[aY,this]
theorem acQ{p q:az}(k:Nat)(hr:p.aG=q.aG)(h1:p.parts.length≤k)(h2:q.parts.length≤k)(h:p.parts.take k=q.parts.take k):aY p q=true:=by
 rw[List.take_of_length_le h1,List.take_of_length_le h2]at h
 simp[aY,hr,h]
theorem acR{α:Type}{l m:List α}(k:Nat)(h1:k<l.length)(h2:k<m.length)(h:l.take k=m.take k)(he:l[k]=m[k]):l.take (k+1)=m.take (k+1):=by
 rw[List.take_succ_eq_append_getElem h1,List.take_succ_eq_append_getElem h2,h,he]
end Go.WW
namespace Go.Proofs.YtfieenjdcpjmgaaGreatDoor
open Go.RowKit Go.WW
theorem nV(s t:Sl)(p q:az)(w:World)(hp:bn w s p)(hq:bn w t q):Calls Tryz.prog 27 #[.agg (ah s p),.agg (ah t q)] w fun e w'=>e=.returned (.bool (aY p q))∧Below w.heap.size w w':=by
 have hl:p.parts.length≤4294967000:=hp.1.1
 have hB:Below w.heap.size w ((w.alloc (.cells (ah s p) 40)).alloc (.cells (ah t q) 40)):=((Below.refl _ _).alloc (Nat.le_refl _) _).alloc (by simp) _
 by_cases hr:p.aG=q.aG
 ·have hr':=str_eq _ _ hr
  have HR:=Lib.hid hr;clear hr
  by_cases hn:p.parts.length=q.parts.length
  ·have hn':((p.parts.length:Int) != (q.parts.length:Int))=false:=by simp[hn]
   have hn1:p.parts.length≤q.parts.length:=by omega
   have hn2:q.parts.length≤p.parts.length:=by omega
   clear hn
   go_enter Tryz.func27,Tryz.ntmps27
   go_wp2
   go_loopw [5] (fun i wr=>Below ((w.alloc (.cells (ah s p) 40)).alloc (.cells (ah t q) 40)).heap.size ((w.alloc (.cells (ah s p) 40)).alloc (.cells (ah t q) 40)) wr∧∃k:Nat,k≤p.parts.length∧i=.int .i64 k∧Hid (p.parts.take k=q.parts.take k)) (fun i _=>p.parts.length-(intOf i).toNat)
   case atStart=>exact⟨Below.refl _ _,0,Nat.zero_le _,rfl,by simp[Hid]⟩
   case round=>
    obtain⟨hbr,k,hk,rfl,hall⟩:=hrel
    obtain⟨hcc,aT,hrr⟩:=bg hbr
    by_cases hlt:k<p.parts.length
    ·have hlq:k<q.parts.length:=by omega
     obtain⟨b,o,ha,hc,hsz⟩:=hp.1.get k hlt
     obtain⟨b',o',ha',hc',hsz'⟩:=hq.1.get k hlq
     have hb:b<w.heap.size:=World.block_lt_of_cell? w _ hc
     have hb':b'<w.heap.size:=World.block_lt_of_cell? w _ hc'
     have hb1:b<w.heap.size+1+1:=by omega
     have hb1':b'<w.heap.size+1+1:=by omega
     have hki:(k:Int)<(p.parts.length:Int):=by omega
     have hkq:(k:Int)<(q.parts.length:Int):=by omega
     by_cases he:p.parts[k]=q.parts[k]
     ·have he':=str_eq _ _ he
      have HT:=Lib.hid (acR k hlt hlq hall.out he)
      clear he
      go_wp2
      refine dM hbr (by kernel_rfl) (by kernel_rfl) ?_
      repeat (go_big_quiet_step (fail))
      refine wpQuiet_nil ?_
      intro w2 hb2
      go_wp2
      go_roundw
      case rel=>exact⟨hb2,k+1,by omega,by go_num,HT.out⟩
      case measure=>simp[intOf];omega
     ·have he':=lu _ _ he
      have HT:=Lib.hid (acP k hlt hlq he)
      clear he
      go_wp2
      refine dM hbr (by kernel_rfl) (by kernel_rfl) ?_
      repeat (go_big_quiet_step (fail))
      refine wpQuiet_nil ?_
      intro w2 hb2
      go_wp2
      go_ret
      exact⟨by rw[HT.out];rfl,hB.trans (hb2.mono (by simp;omega))⟩
    ·have HT:=Lib.hid (acQ k HR.out (by omega) (by omega) hall.out)
     go_wp2
     go_ret
     exact⟨by rw[HT.out];rfl,hB.trans (hbr.mono (by simp;omega))⟩
  ·have hn':((p.parts.length:Int) != (q.parts.length:Int))=true:=by simp;omega
   have HN:=Lib.hid (acO hn);clear hn
   go_enter Tryz.func27,Tryz.ntmps27
   go_wp2
   go_ret
   exact⟨by rw[HN.out];rfl,hB⟩
 ·have hr':=lu _ _ hr
  have HN:=Lib.hid (acN hr);clear hr
  go_enter Tryz.func27,Tryz.ntmps27
  go_wp2
  go_ret
  exact⟨by rw[HN.out];rfl,hB⟩
end Go.Proofs.YtfieenjdcpjmgaaGreatDoor
namespace Go.WW
def dV(p:Int):Int:=if p == 1 then 16 else if p == 2 then 32 else 0
def nH(k:Key):Bool:=decide (0<dV k.profile)&&((k.bytes.length:Int) == dV k.profile)&&aF k.version 0 65535
def iL(dS ver:Int)(k:Key):Bool:=!(dV k.profile == 0)&&!(k.version != ver)&&(if dS == 0 then nH k else aF k.bytes.length 1 256)
def jB{α:Type}(r:α→α→Bool)(l:List α)(i:Nat):Bool:=i == 0 || (match l[i-1]?,l[i]? with|some a,some b=>r a b|_,_=>true)
def ordered{α:Type}(r:α→α→Bool)(l:List α):Bool:=(List.range l.length).all (jB r l)
def mQ(a b:Key):Bool:=decide (a.profile<b.profile)
def jc(s:bC):Bool:=aF s.version 1 65535&&aF s.keys.length 1 4&&decide ((s.di.size:Int)≤256)&&aF s.dK 0 65536&&(decide (0<s.dK) || s.di.toList.isEmpty)&&aF s.created 0 1099511627776
def iw(dS:Int)(s:bC):Bool:=s.keys.all (iL dS s.version)&&ordered mQ s.keys&&jc s
theorem FM{f:Nat→Bool}(k:Nat)(h:(List.range k).all f=true)(hn:f k=true):(List.range (k+1)).all f=true:=by
 rw[List.range_succ,List.all_append,h];simp[hn]
theorem CB{f:Nat→Bool}(n k:Nat)(h:k<n)(hn:f k=false):(List.range n).all f=false:=by
 rw[List.all_eq_false];exact⟨k,List.mem_range.2 h,by simp[hn]⟩
theorem acT{f:Nat→Bool}(n k:Nat)(hk:k=n)(h:(List.range k).all f=true):(List.range n).all f=true:=by subst hk;exact h
end Go.WW
namespace Go.Proofs.YtfieenjdcpjmgaaGreatDoor
open Go.RowKit Go.WW
theorem sZ(p:Int)(w:World):Calls Tryz.prog 213 #[.int .i64 p] w fun e w'=>e=.returned (.int .i64 (dV p))∧w=w':=by
 rcases(show p=1∨p=2∨(¬p=1∧¬p=2) by omega)with rfl|rfl|⟨h1,h2⟩
 iterate 2
  ·go_enter Tryz.func213,Tryz.ntmps213
   go_wp2
   go_ret
   exact⟨rfl,rfl⟩
 ·have h1':(p == 1)=false:=by simpa using h1
  have h2':(p == 2)=false:=by simpa using h2
  have HK:Hid (dV p=0):=by simp[Hid,dV,h1,h2]
  clear h1 h2
  go_enter Tryz.func213,Tryz.ntmps213
  go_wp2
  go_ret
  exact⟨by rw[HK.out];rfl,rfl⟩
theorem yg(s:Sl)(k:Key)(w:World):Calls Tryz.prog 214 #[.agg (bZ s k)] w fun e w'=>e=.returned (.bool (nH k))∧Below w.heap.size w w':=by
 have hB:∀ob,Below w.heap.size w (w.alloc ob):=fun ob=>(Below.refl _ _).alloc (Nat.le_refl _) _
 by_cases h1:0<dV k.profile
 ·by_cases h2:(k.bytes.length:Int)=dV k.profile
  ·have h2':((k.bytes.length:Int) == dV k.profile)=true:=by simp[h2]
   have HF:Hid (nH k=aF k.version 0 65535):=by simp[Hid,nH,h1,h2]
   clear h2
   go_enter Tryz.func214,Tryz.ntmps214
   go_wp2
   refine dM (Below.refl _ _) (by kernel_rfl) (by kernel_rfl) ?_
   repeat (go_big_quiet_step (first|(go_at_call 213;exact Calls.BV (sZ _ _))|(go_at_call 142;exact Calls.BV (qQ _ _ _ _))))
   refine wpQuiet_nil ?_
   intro w2 hb2
   go_wp2
   go_ret
   exact⟨by rw[HF.out];rfl,(hB _).trans (hb2.mono (by simp))⟩
  ·have h2':((k.bytes.length:Int) == dV k.profile)=false:=by simp[h2]
   have HF:Hid (nH k=false):=by simp[Hid,nH,h2]
   clear h2
   go_enter Tryz.func214,Tryz.ntmps214
   go_wp2
   refine dM (Below.refl _ _) (by kernel_rfl) (by kernel_rfl) ?_
   repeat (go_big_quiet_step ((go_at_call 213;exact Calls.BV (sZ _ _))))
   refine wpQuiet_nil ?_
   intro w2 hb2
   go_wp2
   go_ret
   exact⟨by rw[HF.out];rfl,(hB _).trans (hb2.mono (by simp))⟩
 ·have h1':decide (0<dV k.profile)=false:=by simpa using h1
  have HF:Hid (nH k=false):=by simp[Hid,nH,h1']
  clear h1
  go_enter Tryz.func214,Tryz.ntmps214
  go_wp2
  refine dM (Below.refl _ _) (by kernel_rfl) (by kernel_rfl) ?_
  repeat (go_big_quiet_step ((go_at_call 213;exact Calls.BV (sZ _ _))))
  refine wpQuiet_nil ?_
  intro w2 hb2
  go_wp2
  go_ret
  exact⟨by rw[HF.out];rfl,(hB _).trans (hb2.mono (by simp))⟩
end Go.Proofs.YtfieenjdcpjmgaaGreatDoor
