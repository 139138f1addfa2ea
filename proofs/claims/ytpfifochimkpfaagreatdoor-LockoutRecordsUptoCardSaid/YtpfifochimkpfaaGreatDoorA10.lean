/- A part of the proof. -/
import Derived.Test.YtpfifochimkpfaaGreatDoorA09
import Derived.Test.YtpfifochimkpfaaGreatDoorA05
import Derived.Test.YtpfifochimkpfaaGreatDoorA06
import Derived.Test.YtpfifochimkpfaaGreatDoorA08
import Derived.OwnWalk
set_option maxRecDepth 100000
set_option maxHeartbeats 8000000
namespace Go.WW
def FV(x:bP):Bool:=decide (0<x.dX) || x.dK.toList.isEmpty
theorem aea{x:bP}(h1:aC x.version 1 65535=true)(h2:aC x.keys.length 1 4=true):jd x=(decide ((x.dK.size:Int)≤256)&&aC x.dX 0 65536&&FV x&&aC x.created 0 1099511627776):=by
 rw[jd,h1,h2,FV];rfl
end Go.WW
namespace Go.Proofs.YtpfifochimkpfaaGreatDoor
open Go.RowKit Go.WW
theorem aeb(s:Sl)(x:bP)(m:Int)(w:World)(hx:kG w s x):Calls Tryz.prog 170 #[.agg (bY s x),.int .i64 m] w fun e w'=>e=.returned (.bool (gX m x))∧Below w.heap.size w w':=by
 have hn:x.keys.length≤4294967000:=hx.1.1
 have hs:x.dK.size≤4294967000:=hx.2
 have hB:Below w.heap.size w ((w.alloc (.cells (bY s x) 80)).alloc (.cells #[.int .i64 m] 3)):=((Below.refl _ w).alloc (Nat.le_refl _) _).alloc (by simp) _
 have RV:=hx.later hB
 have g0:((w.alloc (.cells (bY s x) 80)).alloc (.cells #[.int .i64 m] 3)).cell? ⟨w.heap.size,0,none⟩=some (.int .i64 x.version):=by simp[go_sem]
 have g1:((w.alloc (.cells (bY s x) 80)).alloc (.cells #[.int .i64 m] 3)).cell? ⟨w.heap.size+1,0,none⟩=some (.int .i64 m):=by simp[go_sem]
 have hlim:∀k∈x.keys,k.bytes.length≤lim:=fun k hk=>by
  obtain⟨i,hi,rfl⟩:=List.mem_iff_getElem.1 hk
  obtain⟨_,_,_,_,_,h3⟩:=hx.1.get i hi
  exact h3.1
 have HF:=Lib.hid (adp s.a s.cap 200 4 x.keys w.heap.size (w.heap.size+1) (iO m x.version) _ ad4 RV.1 (fun y t p hp _=>ad3 t p _ _ m x.version y.w (hlim p hp) ((y.b.cell (p:=⟨w.heap.size,0,none⟩) (by simp;omega)).trans g0) ((y.b.cell (p:=⟨w.heap.size+1,0,none⟩) (by simp)).trans g1)))
 have HL:=Lib.hid hlim
 clear g0 g1 hlim
 go_enter Tryz.func170,Tryz.ntmps170
 cases c1:aC x.version 1 65535
 ·have HN:=Lib.hid (adW (m:=m) c1)
  go_wp2_with (go_at_call 116;refine(wS _ _ _ _).mono ?_;rintro e w' ⟨rfl,rfl⟩)
  go_ret
  exact⟨by rw[HN.out];rfl,hB⟩
 cases c2:decide (1≤(x.keys.length:Int))
 ·have HN:=Lib.hid (adX (m:=m) c2)
  have c2':decide (1≤x.keys.length)=false:=by rw[decide_eq_false_iff_not]at c2 ⊢;omega
  go_wp2_with (go_at_call 116;refine(wS _ _ _ _).mono ?_;rintro e w' ⟨rfl,rfl⟩)
  go_ret
  exact⟨by rw[HN.out];rfl,hB⟩
 have c2':decide (1≤x.keys.length)=true:=by rw[decide_eq_true_eq]at c2 ⊢;omega
 go_wp2_with (go_at_call 116;refine(wS _ _ _ _).mono ?_;rintro e w' ⟨rfl,rfl⟩)
 refine(HF.out).mono ?_
 rintro e w1 ⟨rfl,hb1⟩
 have hB1:=ag hB hb1
 obtain⟨hcc,bf,hrr⟩:=aQ hb1
 have hsz:w.heap.size+1<w1.heap.size:=by have:=hb1.size;simp at this;omega
 cases c3:(decide ((x.keys.length:Int)≤4)&&x.keys.all (iO m x.version))
 ·have HN:=Lib.hid (adY c3)
  go_wp2_with fail
  go_ret
  exact⟨by rw[HN.out];rfl,hB1⟩
 go_wp2_with fail
 refine(adv _ _ _ _ (hx.1.later hB1)).mono ?_
 rintro e w2 ⟨rfl,hb2⟩
 have hB2:=ag hB1 hb2
 clear hcc bf hrr
 have hbb:Below ((w.alloc (.cells (bY s x) 80)).alloc (.cells #[.int .i64 m] 3)).heap.size ((w.alloc (.cells (bY s x) 80)).alloc (.cells #[.int .i64 m] 3)) w2:=ag hb1 hb2
 obtain⟨hcc,bf,hrr⟩:=aQ hbb
 have hsz2:w.heap.size+1<w2.heap.size:=by have:=hbb.size;simp at this;omega
 cases c4:ordered mF x.keys
 ·have HN:=Lib.hid (adZ (m:=m) c4)
  go_wp2_with fail
  go_ret
  exact⟨by rw[HN.out];rfl,hB2⟩
 obtain⟨hy1,hy2⟩:=ad1 c2 c3 c4
 have HN:=Lib.hid (hy1.trans (aea c1 hy2))
 clear hy1 hy2 RV hx hb1 hb2 hbb hB1 hB
 cases c5:decide ((x.dK.size:Int)≤256)
 ·have c5':decide (x.dK.size≤256)=false:=by rw[decide_eq_false_iff_not]at c5 ⊢;omega
  go_wp2_with fail
  go_ret
  exact⟨by rw[HN.out,c5];rfl,hB2⟩
 have c5':decide (x.dK.size≤256)=true:=by rw[decide_eq_true_eq]at c5 ⊢;omega
 cases c6:aC x.dX 0 65536
 ·go_wp2_with (go_at_call 116;refine(wS _ _ _ _).mono ?_;rintro e w' ⟨rfl,rfl⟩)
  go_ret
  exact⟨by rw[HN.out,c5,c6];rfl,hB2⟩
 cases c7:decide (0<x.dX)
 ·cases c8:x.dK.toList.isEmpty
  ·have c8':¬x.dK.toList=[]:=by simpa using c8
   go_wp2_with (go_at_call 116;refine(wS _ _ _ _).mono ?_;rintro e w' ⟨rfl,rfl⟩)
   go_ret
   exact⟨by rw[HN.out,c5,c6,FV,c7,c8];rfl,hB2⟩
  ·have c8':x.dK.toList=[]:=by simpa using c8
   go_wp2_with (go_at_call 116;refine(wS _ _ _ _).mono ?_;rintro e w' ⟨rfl,rfl⟩)
   go_ret
   exact⟨by rw[HN.out,c5,c6,FV,c7,c8];rfl,hB2⟩
 ·go_wp2_with (go_at_call 116;refine(wS _ _ _ _).mono ?_;rintro e w' ⟨rfl,rfl⟩)
  go_ret
  exact⟨by rw[HN.out,c5,c6,FV,c7];rfl,hB2⟩
theorem aee(s:Sl)(x:bP)(B:Nat)(m:Int)(w:World)(hx:kG w s x)(h:w.cell? ⟨B,4,none⟩=some (.int .i64 m)):Calls Tryz.prog 169 #[.agg (bY s x),.pointer (some ⟨B,0,none⟩)] w fun e w'=>e=.returned (.bool (gX m x))∧Below w.heap.size w w':=by
 have hb:B<w.heap.size:=World.block_lt_of_cell? w _ h
 have hB:Below w.heap.size w (w.alloc (.cells (bY s x) 80)):=(Below.refl _ w).alloc (Nat.le_refl _) _
 go_enter Tryz.func169,Tryz.ntmps169
 go_wp2_with fail
 refine(aeb _ _ _ _ (hx.later hB)).mono ?_
 rintro e w1 ⟨rfl,hb1⟩
 go_wp2_with fail
 go_ret
 exact⟨rfl,ag hB hb1⟩
theorem aef:Enters 169:=⟨fun args w=>by kernel_rfl⟩
def wY(d:Entry):Bool:=(decide ((d.keys.length:Int)≤16)&&d.keys.all (gX d.fH))&&ordered kK d.keys
theorem aeg(r:aK)(d:Entry)(w:World)(he:aS w r d):Calls Tryz.prog 118 #[.agg (ae r d)] w fun e w'=>e=.returned (.bool (wY d))∧Below w.heap.size w w':=by
 have hB:Below w.heap.size w (w.alloc (.cells (ae r d) 44)):=(Below.refl _ w).alloc (Nat.le_refl _) _
 have hk:=he.keys.later hB
 have g:(w.alloc (.cells (ae r d) 44)).cell? ⟨w.heap.size,4,none⟩=some (.int .i64 d.fH):=by simp[go_sem]
 have HF:=Lib.hid (adn r.keys.a r.keys.cap 169 16 d.keys w.heap.size (gX d.fH) _ aef hk (fun y t p _ hp=>aee t p _ d.fH y.w hp ((y.b.cell (p:=⟨w.heap.size,4,none⟩) (by simp)).trans g)))
 clear g hk
 go_enter Tryz.func118,Tryz.ntmps118
 go_wp2_with fail
 refine(HF.out).mono ?_
 rintro e w1 ⟨rfl,hb1⟩
 have hB1:=ag hB hb1
 obtain⟨hcc,bf,hrr⟩:=aQ hb1
 have hsz:w.heap.size<w1.heap.size:=by have:=hb1.size;simp at this;omega
 cases c1:(decide ((d.keys.length:Int)≤16)&&d.keys.all (gX d.fH))
 ·have HN:=Lib.hid (show wY d=false by rw[wY,c1];rfl)
  go_wp2_with fail
  go_ret
  exact⟨by rw[HN.out];rfl,hB1⟩
 ·have HN:=Lib.hid (show wY d=ordered kK d.keys by rw[wY,c1];rfl)
  go_wp2_with fail
  refine(adx _ _ _ _ (he.keys.later hB1)).mono ?_
  rintro e w2 ⟨rfl,hb2⟩
  go_wp2_with fail
  go_ret
  exact⟨by rw[HN.out];rfl,ag hB1 hb2⟩
theorem aeh:Enters 33:=⟨fun args w=>by kernel_rfl⟩
theorem RX(a:Option Addr)(cap:Nat)(l:List aH)(w:World)(hl:fQ w a l):Calls Tryz.prog 120 #[.slice a l.length cap] w fun e w'=>e=.returned (.bool (different l))∧Below w.heap.size w w':=by
 have HF:=Lib.hid (adi a cap 33 16 l aZ _ aeh hl (fun y t p _ hp=>ve t p y.w hp))
 have HE:=Lib.hid (ac0 l)
 go_enter Tryz.func120,Tryz.ntmps120
 go_wp2_with fail
 refine(HF.out).mono ?_
 rintro e w1 ⟨rfl,hb1⟩
 cases c1:(decide ((l.length:Int)≤16)&&l.all aZ)
 ·have HN:=Lib.hid (show different l=false by rw[←HE.out,c1];rfl)
  go_wp2_with fail
  go_ret
  exact⟨by rw[HN.out];rfl,hb1⟩
 ·have HN:=Lib.hid (show different l=vk l by rw[←HE.out,c1];rfl)
  have hall:l.all aZ=true:=by rw[Bool.and_eq_true]at c1;exact c1.2
  have HA:=Lib.hid hall
  clear hall
  go_wp2_with fail
  refine(RS _ _ _ _ (hl.later hb1) HA.out).mono ?_
  rintro e w2 ⟨rfl,hb2⟩
  go_wp2_with fail
  go_ret
  exact⟨by rw[HN.out];rfl,ag hb1 hb2⟩
theorem aei:Enters 165:=⟨fun args w=>by kernel_rfl⟩
theorem aej(s:Sl)(p n:aH)(B:Nat)(w:World)(hp:bK w s p)(h:w.cell? ⟨B,1,none⟩=some (.string n.aJ)):Calls Tryz.prog 165 #[.agg (az s p),.pointer (some ⟨B,0,none⟩)] w fun e w'=>e=.returned (.bool (qU n p))∧Below w.heap.size w w':=by
 have hb:B<w.heap.size:=World.block_lt_of_cell? w _ h
 have hB:Below w.heap.size w (w.alloc (.cells (az s p) 35)):=(Below.refl _ w).alloc (Nat.le_refl _) _
 go_enter Tryz.func165,Tryz.ntmps165
 go_wp2_with fail
 refine(ve _ _ _ (hp.later hB)).mono ?_
 rintro e w1 ⟨rfl,hb1⟩
 have hB1:=ag hB hb1
 obtain⟨hcc,bf,hrr⟩:=aQ hb1
 have hsz:w.heap.size<w1.heap.size:=by have:=hb1.size;simp at this;omega
 cases c1:aZ p
 ·have HN:=Lib.hid (show qU n p=false by rw[qU,c1];rfl)
  go_wp2_with fail
  go_ret
  exact⟨by rw[HN.out];rfl,hB1⟩
 ·have HN:=Lib.hid (show qU n p=(p.aJ.toList == n.aJ.toList) by
   rw[qU,c1]
   by_cases h':p.aJ=n.aJ
   ·rw[str_eq _ _ h'];simp[h']
   ·rw[kJ _ _ h'];simp[h'])
  go_wp2_with fail
  go_ret
  exact⟨by rw[HN.out];rfl,hB1⟩
theorem FW:fV Tryz.prog 24 35 2 40:=fV.of Tryz.underlying24 (by kernel_rfl)
theorem cO.alloc{w:World}{k:Nat}{A:Option Addr}{rows:List (Array Value)}(h:cO w k A rows)(ob:Obj):cO (w.alloc ob) k A rows:=
 ⟨h.size,h.one,fun i hi=>by obtain⟨b,o,h1,h2⟩:=h.at_ i hi;exact⟨b,o,h1,by rw[PD (fA h2)];exact h2⟩⟩
theorem aek(r:aK)(d:Entry)(w:World)(he:aS w r d):Calls Tryz.prog 117 #[.agg (ae r d)] w fun e w'=>e=.returned (.bool (qV d))∧Below w.heap.size w w':=by
 have hB:Below w.heap.size w (w.alloc (.cells (ae r d) 44)):=(Below.refl _ w).alloc (Nat.le_refl _) _
 have hA:=he.aliases.later hB
 have hal:d.aliases.length≤4294967000:=he.aliases.1
 have g:(w.alloc (.cells (ae r d) 44)).cell? ⟨w.heap.size,1,none⟩=some (.string d.name.aJ):=by simp[go_sem]
 have HF:=Lib.hid (fun(w1:World) (hb1:Below (w.alloc (.cells (ae r d) 44)).heap.size (w.alloc (.cells (ae r d) 44)) w1)=>adl r.aliases.a r.aliases.cap 165 16 d.aliases w.heap.size (qU d.name) w1 aei (hA.later hb1) (fun y t p _ hp=>aej t p d.name _ y.w hp (((ag hb1 y.b).cell (p:=⟨w.heap.size,1,none⟩) (by simp)).trans g)))
 clear g hA
 go_enter Tryz.func117,Tryz.ntmps117
 go_wp2_with fail
 refine(ve _ _ _ (he.name.later hB)).mono ?_
 rintro e w1 ⟨rfl,hb1⟩
 have hB1:=ag hB hb1
 obtain⟨hcc,bf,hrr⟩:=aQ hb1
 have hsz:w.heap.size<w1.heap.size:=by have:=hb1.size;simp at this;omega
 cases c1:aZ d.name
 ·have HN:=Lib.hid (show qV d=false by rw[qV,c1];rfl)
  go_wp2_with fail
  go_ret
  exact⟨by rw[HN.out];rfl,hB1⟩
 go_wp2_with fail
 refine(HF.out w1 hb1).mono ?_
 rintro e w2 ⟨rfl,hb2⟩
 have hb2':=ag hb1 hb2
 have hB2:=ag hB1 hb2
 clear hcc bf hrr hsz
 obtain⟨hcc,bf,hrr⟩:=aQ hb2'
 have hsz:w.heap.size<w2.heap.size:=by have:=hb2'.size;simp at this;omega
 cases c2:(decide ((d.aliases.length:Int)≤16)&&d.aliases.all (qU d.name))
 ·have HN:=Lib.hid (show qV d=false by rw[qV,c1,c2];rfl)
  go_wp2_with fail
  go_ret
  exact⟨by rw[HN.out];rfl,hB2⟩
 have HN:=Lib.hid (show qV d=vk (d.name::d.aliases) by rw[qV,c1,c2];rfl)
 have HO:=Lib.hid (show(d.name::d.aliases).all aZ=true by
  rw[Bool.and_eq_true,List.all_eq_true]at c2
  rw[List.all_cons,c1,Bool.true_and,List.all_eq_true]
  intro a ha
  have:=c2.2 a ha
  rw[qU,Bool.and_eq_true]at this
  exact this.1)
 obtain⟨rows,hlr,o8,hrR⟩:=bH.src (he.aliases.later hB2) Fh
 have lS:=Lib.hid hlr
 have HRR:=Lib.hid hrR
 have RY:=cO.alloc o8 (.cells (az r.parts d.name) 35)
 have hown:=Own.one w2 (az r.parts d.name) 35 2 (ER _ _)
 clear hlr hrR
 go_wp2_with (at_builtin;refine abh rfl (.tmp 17) (.tmp 19) _ rfl FW (n:=1) (s:=⟨some ⟨w2.heap.size,0,none⟩,1⟩) rfl rfl hown rfl lS.out.symm RY (by rw[lS.out];simp;omega) (by simp) ?_;intro s3 w3 hown3 hg3 iD)
 have hb3:Below w2.heap.size w2 w3:=((Below.refl _ w2).alloc (Nat.le_refl _) _).grown hg3 (by simp) (fun k e=>by cases e;exact Nat.le_refl _)
 have anb:d.aliases.length≤16:=by rw[Bool.and_eq_true,decide_eq_true_eq]at c2;omega
 have hP3:fQ w3 s3.a (d.name::d.aliases):=by
  refine bH.iM hown3 (by have:=lS.out;simp;omega) (by unfold lim;simp;omega) ?_
  intro i hi
  cases i with
  |zero=>exact⟨d.name,r.parts,rfl,rfl,(he.name.later hB2).later hb3⟩
  |succ i=>
   have hi':i<rows.length:=by simpa using hi
   obtain⟨p,s,h1,h2,h3⟩:=HRR.out i hi'
   exact⟨p,s,by simpa using h1,by simpa using h2,h3.later hb3⟩
 have HD:=RS s3.a s3.cap _ _ hP3 HO.out
 rw[List.length_cons,Nat.add_comm]at HD
 refine HD.mono ?_
 rintro e w4 ⟨rfl,hb4⟩
 clear hcc bf hrr o8 RY hown hown3 hg3 iD
 go_wp2_with fail
 go_ret
 exact⟨by rw[HN.out];rfl,ag (ag hB2 hb3) hb4⟩
end Go.Proofs.YtpfifochimkpfaaGreatDoor
namespace Go.WW
open Go.RowKit
def CQ(ops:Array Oper)(o:Oper)(a:Act):Option Act:=
 if Region.wanted o (yielded ops a.tmps)then
  match o.op with
  | .move x=>some (a.put o.dst (a.eval x))
  | .assign x=>some (a.put o.dst (a.eval x))
  | .pick c x y=>match a.eval c with | .bool b=>some (a.put o.dst (if b then a.eval x else a.eval y))|_=>none
  |_=>none
 else some (a.put o.dst undef)
def yD(ops:Array Oper):List Oper→Act→Option Act
 | [],a=>some a
 |o::l,a=>match CQ ops o a with|some a'=>yD ops l a'|none=>none
def okF(t:Nat):Option Act→Bool
 |some a=>match a.tmps.getD t undef with | .bool false=>true|_=>false
 |none=>false
theorem put_defers(a:Act)(d:Option Tmp)(v:Value):(a.put d v).defers=a.defers:=by unfold Act.put;cases d<;>rfl
theorem ael{ops:Array Oper}{o:Oper}{a a':Act}(h:CQ ops o a=some a'):a'.defers=a.defers:=by
 unfold CQ at h
 split at h
 ·split at h
  iterate 2
   ·cases h;exact put_defers _ _ _
  ·split at h
   ·cases h;exact put_defers _ _ _
   ·cases h
  ·cases h
 ·cases h;exact put_defers _ _ _
theorem RZ{ops:Array Oper}:∀{l:List Oper} {a a':Act},yD ops l a=some a'→a'.defers=a.defers
 | [],a,a',h=>by cases h;rfl
 |o::l,a,a',h=>by
  unfold yD at h
  split at h
  ·rename_i b hb;rw[RZ h,ael hb]
  ·cases h
theorem aem{P:Program}{ops:Array Oper}{Q:Exit→Act→World→Prop}{o:Oper}{rest:List Oper}{a a':Act}{w:World}(h:CQ ops o a=some a')(hr:wpList P ops Q rest a' w):wpList P ops Q (o::rest) a w:=by
 refine wpList_step fun K hK=>?_
 unfold CQ at h
 split at h
 ·rename_i hw
  rw[if_pos hw]
  unfold Oper.wp
  split at h
  iterate 2
   ·rename_i x hop;cases h;simp only[execOp,hop,Sem.run_pure,Oper.upon];exact hK _ _ hr
  ·rename_i c x y hop
   split at h
   ·rename_i b hb;cases h
    simp only[execOp,hop,hb,asBool,Sem.run_bind,Sem.run_pure,Result.andThen,Oper.upon]
    exact hK _ _ (by cases b<;>exact hr)
   ·cases h
  ·cases h
 ·rename_i hw
  cases h
  rw[if_neg hw]
  exact hK _ _ hr
theorem Si{P:Program}{ops:Array Oper}{Q:Exit→Act→World→Prop}{w:World}:∀{l:List Oper} {a a':Act},yD ops l a=some a'→Q .normal a' w→wpList P ops Q l a w
 | [],a,a',h,hq=>by cases h;exact hq
 |o::l,a,a',h,hq=>by
  unfold yD at h
  split at h
  ·rename_i b hb;exact aem hb (Si h hq)
  ·cases h
theorem tN{P:Program}{ops:Array Oper}{Q:Exit→Act→World→Prop}{w:World}{l:List Oper}{a:Act}(t:Nat)(h:okF t (yD ops l a)=true)(hq:∀a',a'.tmps.getD t undef=.bool false→a'.defers=a.defers→Q .normal a' w):wpList P ops Q l a w:=by
 cases hr:yD ops l a with
 |none=>rw[hr]at h;cases h
 |some a'=>
  refine Si hr (hq a' ?_ (RZ hr))
  rw[hr]at h
  unfold okF at h
  split at h
  ·rename_i b hb
   cases hb
   split at h
   ·assumption
   ·cases h
  ·cases h
end Go.WW
namespace Go.WW
theorem aen(x y:BitVec 32):(x&&& ~~~y=0#32)↔(x ||| y=y):=by
 constructor
 ·intro h
  apply BitVec.eq_of_getElem_eq
  intro i hi
  have:=congrArg (fun v=>v[i]) h
  simp at this ⊢
  intro h'
  cases hy:y[i]
  ·exact absurd (this h') (by simp[hy])
  ·rfl
 ·intro h
  apply BitVec.eq_of_getElem_eq
  intro i hi
  have:=congrArg (fun v=>v[i]) h
  simp at this ⊢
  exact this
theorem aeo(a:Int)(h0:0≤a)(h1:a≤4294967295):(bits .andNot .u32 a 1023 == 0)=wW a:=by
 obtain⟨n,rfl⟩:=Int.eq_ofNat_of_zero_le h0
 have hn:n<4294967296:=by omega
 have e:bits .andNot .u32 (n:Int) 1023=((BitVec.ofInt 32 (n:Int)&&& ~~~ BitVec.ofInt 32 1023).toNat:Int):=by
  show IntKind.u32.wrap ((BitVec.ofInt 32 (n:Int)&&& ~~~ BitVec.ofInt 32 1023).toNat:Int)=_
  have:=(BitVec.ofInt 32 (n:Int)&&& ~~~ BitVec.ofInt 32 1023).isLt
  generalize (BitVec.ofInt 32 (n:Int)&&& ~~~ BitVec.ofInt 32 1023).toNat=v at this ⊢
  have e2:(2:Int) ^ IntKind.u32.bits=4294967296:=rfl
  have e3:IntKind.u32.signed=false:=rfl
  simp[IntKind.wrap,e2,e3]
  omega
 have e1:(BitVec.ofInt 32 (n:Int)).toNat=n:=by simp;omega
 have k1:((BitVec.ofInt 32 (n:Int)&&& ~~~ BitVec.ofInt 32 1023).toNat=0)↔n≤1023:=by
  rw[show(BitVec.ofInt 32 (n:Int)&&& ~~~ BitVec.ofInt 32 1023).toNat=0↔BitVec.ofInt 32 (n:Int)&&& ~~~ BitVec.ofInt 32 1023=0#32 from⟨fun h=>BitVec.eq_of_toNat_eq (by rw[h];rfl),fun h=>by rw[h];rfl⟩,aen]
  rw[show(BitVec.ofInt 32 (n:Int) ||| BitVec.ofInt 32 1023=BitVec.ofInt 32 1023)↔(n ||| 1023=1023) from ?_]
  ·exact QY n
  ·constructor
   ·intro h
    have:=congrArg BitVec.toNat h
    rw[BitVec.toNat_or,e1]at this
    exact this
   ·intro h
    apply BitVec.eq_of_toNat_eq
    rw[BitVec.toNat_or,e1]
    exact h
 rw[e,wW,Bool.eq_iff_iff]
 simp only[beq_iff_eq,decide_eq_true_eq]
 omega
open Go.RowKit
theorem Sj{w:World}{b:Nat}(x:Int)(h:w.cell? ⟨b,0,none⟩=some (.int .i64 x)):pU w (some ⟨b,0,none⟩) [x]:=by
 refine⟨by simp[lim],fun i hi=>?_⟩
 match i,hi with
 |0,_=>exact⟨_,_,_,rfl,h,x,rfl,rfl⟩
theorem aep{w:World}{b:Nat}(x y:Int)(h:w.cell? ⟨b,0,none⟩=some (.int .i64 x))(h1:w.cell? ⟨b,1,none⟩=some (.int .i64 y)):pU w (some ⟨b,0,none⟩) [x,y]:=by
 refine⟨by simp[lim],fun i hi=>?_⟩
 match i,hi with
 |0,_=>exact⟨_,_,_,rfl,h,x,rfl,rfl⟩
 |1,_=>exact⟨_,_,_,rfl,h1,y,rfl,rfl⟩
theorem aeq{w:World}{b:Nat}(x y z u:Int)(h:w.cell? ⟨b,0,none⟩=some (.int .i64 x))(h1:w.cell? ⟨b,1,none⟩=some (.int .i64 y))(h2:w.cell? ⟨b,2,none⟩=some (.int .i64 z))(h3:w.cell? ⟨b,3,none⟩=some (.int .i64 u)):pU w (some ⟨b,0,none⟩) [x,y,z,u]:=by
 refine⟨by simp[lim],fun i hi=>?_⟩
 match i,hi with
 |0,_=>exact⟨_,_,_,rfl,h,x,rfl,rfl⟩
 |1,_=>exact⟨_,_,_,rfl,h1,y,rfl,rfl⟩
 |2,_=>exact⟨_,_,_,rfl,h2,z,rfl,rfl⟩
 |3,_=>exact⟨_,_,_,rfl,h3,u,rfl,rfl⟩
end Go.WW
namespace Go.Proofs.YtpfifochimkpfaaGreatDoor
open Go.RowKit Go.WW
def jB(d:Entry):Bool:=qV d&&wW d.attrs&&([d.fH].all fun v=>aC v 0 65535)&&wY d&&(visible d.aP&&decide ((d.aP.size:Int)≤32))&&([d.jS,d.jT,d.dw,d.iw].all fun v=>aC v 0 1099511627776)&&
 ([d.jF,d.jG].all fun v=>aC v 0 2147483648)&&([d.fails].all fun v=>aC v 0 65535)&&different d.targets&&different d.bW&&(decide ((d.history.length:Int)≤16)&&d.history.all (fun h=>(h.length:Int) == 16))
theorem valid_eq(d:Entry):jB d=bI d:=by
 unfold jB bI
 rw[ac1]
 simp only[wY,kL,jl,List.all_cons,List.all_nil,Bool.and_true]
 rw[Bool.eq_iff_iff]
 simp only[Bool.and_eq_true]
 constructor
 iterate 2
  ·intro h;simp only[h,and_self]
theorem aer(a:Option Addr)(n cap:Nat)(w:World):Calls Tryz.prog 122 #[.slice a n cap] w fun e w'=>e=.returned (.bool ((n:Int) == 16))∧Below w.heap.size w w':=by
 go_enter Tryz.func122,Tryz.ntmps122
 go_wp2_with fail
 go_ret
 exact⟨by first|rfl|(congr 2;rw[Bool.eq_iff_iff];simp;omega),Below.refl _ _⟩
theorem aes:Enters 122:=⟨fun args w=>by kernel_rfl⟩
theorem yE(r:aK)(d:Entry)(w:World)(he:aS w r d):Calls Tryz.prog 63 #[.agg (ae r d)] w fun e w'=>e=.returned (.bool (bI d))∧Below w.heap.size w w':=by
 have hB:Below w.heap.size w (w.alloc (.cells (ae r d) 44)):=(Below.refl _ w).alloc (Nat.le_refl _) _
 have hps:d.aP.size≤maxLen:=by have:=he.aP;unfold lim at this;unfold maxLen;omega
 have HPS:=Lib.hid hps
 clear hps
 have hb0:Below (w.alloc (.cells (ae r d) 44)).heap.size (w.alloc (.cells (ae r d) 44)) (w.alloc (.cells (ae r d) 44)):=Below.refl _ _
 go_enter Tryz.func63,Tryz.ntmps63
 rw[←valid_eq]
 go_wp2_with fail
 have hbx:=hb0
 refine(aek _ _ _ (he.later (ag hB hbx))).mono ?_
 rintro e w1 ⟨rfl,hy⟩
 have hb1:=ag hbx hy
 clear hbx hy
 obtain⟨hcc,bf,hrr⟩:=aQ hb1
 have hsz:w.heap.size<w1.heap.size:=by have:=hb1.size;simp at this;omega
 cases c1:qV d
 ·have HN:=Lib.hid (show jB d=false by rw[jB,c1];simp only[Bool.false_and])
  dsimp only
  first|go_values|go_step|go_upon
  refine tN 2 (by kernel_rfl) ?_
  intro a' h1 h2
  go_wp2_with fail
  refine bodyPost_ret (results_tmp (t:=2) (by rfl) _ _ _) h2 ?_
  exact⟨by rw[h1,HN.out],ag hB hb1⟩
 have hat:=aeo d.attrs he.attrs.1 he.attrs.2
 cases c2:wW d.attrs
 ·have HN:=Lib.hid (show jB d=false by rw[jB,c2];simp only[Bool.and_false,Bool.false_and])
  rw[c2]at hat
  dsimp only
  iterate 17 (first|go_values|go_skip|go_guarded|go_step|go_upon)
  refine tN 2 (by kernel_rfl) ?_
  intro a' h1 h2
  go_wp2_with fail
  refine bodyPost_ret (results_tmp (t:=2) (by rfl) _ _ _) h2 ?_
  exact⟨by rw[h1,HN.out],ag hB hb1⟩
 rw[c2]at hat
 try dsimp only
 go_wp2_with fail
 have hbx:=ay hb1 (.cells #[.int .i64 d.fH] 3)
 refine(FD _ _ _ 65535 [d.fH] _ (Sj _ (by simp[go_sem]))).mono ?_
 rintro e w2 ⟨rfl,hy⟩
 have hb2:=ag hbx hy
 clear hcc bf hrr hsz hbx hy
 obtain⟨hcc,bf,hrr⟩:=aQ hb2
 have hsz:w.heap.size<w2.heap.size:=by have:=hb2.size;simp at this;omega
 cases c3:([d.fH].all fun v=>aC v 0 65535)
 ·have HN:=Lib.hid (show jB d=false by rw[jB,c3];simp only[Bool.and_false,Bool.false_and])
  dsimp only
  first|go_values|go_step|go_upon
  refine tN 2 (by kernel_rfl) ?_
  intro a' h1 h2
  go_wp2_with fail
  refine bodyPost_ret (results_tmp (t:=2) (by rfl) _ _ _) h2 ?_
  exact⟨by rw[h1,HN.out],ag hB hb2⟩
 try dsimp only
 go_wp2_with fail
 have hbx:=hb2
 refine(aeg _ _ _ (he.later (ag hB hbx))).mono ?_
 rintro e w3 ⟨rfl,hy⟩
 have hb3:=ag hbx hy
 clear hcc bf hrr hsz hbx hy
 obtain⟨hcc,bf,hrr⟩:=aQ hb3
 have hsz:w.heap.size<w3.heap.size:=by have:=hb3.size;simp at this;omega
 cases c4:wY d
 ·have HN:=Lib.hid (show jB d=false by rw[jB,c4];simp only[Bool.and_false,Bool.false_and])
  dsimp only
  first|go_values|go_step|go_upon
  refine tN 2 (by kernel_rfl) ?_
  intro a' h1 h2
  go_wp2_with fail
  refine bodyPost_ret (results_tmp (t:=2) (by rfl) _ _ _) h2 ?_
  exact⟨by rw[h1,HN.out],ag hB hb3⟩
 try dsimp only
 go_wp2_with fail
 refine(aaB _ _ HPS.out).mono ?_
 rintro e w' ⟨rfl,rfl⟩
 cases c5:(visible d.aP&&decide ((d.aP.size:Int)≤32))
 ·have HN:=Lib.hid (show jB d=false by rw[jB,c5];simp only[Bool.and_false,Bool.false_and])
  dsimp only
  first|go_values|go_step|go_upon
  refine tN 2 (by kernel_rfl) ?_
  intro a' h1 h2
  go_wp2_with fail
  refine bodyPost_ret (results_tmp (t:=2) (by rfl) _ _ _) h2 ?_
  exact⟨by rw[h1,HN.out],ag hB hb3⟩
 try dsimp only
 go_wp2_with fail
 have hbx:=ay hb3 (.cells #[.int .i64 d.jS,.int .i64 d.jT,.int .i64 d.dw,.int .i64 d.iw] 3)
 refine(FD _ _ _ 1099511627776 [d.jS,d.jT,d.dw,d.iw] _ (aeq _ _ _ _ (by simp[go_sem]) (by simp[go_sem]) (by simp[go_sem]) (by simp[go_sem]))).mono ?_
 rintro e w4 ⟨rfl,hy⟩
 have hb4:=ag hbx hy
 clear hcc bf hrr hsz hbx hy
 obtain⟨hcc,bf,hrr⟩:=aQ hb4
 have hsz:w.heap.size<w4.heap.size:=by have:=hb4.size;simp at this;omega
 cases c6:([d.jS,d.jT,d.dw,d.iw].all fun v=>aC v 0 1099511627776)
 ·have HN:=Lib.hid (show jB d=false by rw[jB,c6];simp only[Bool.and_false,Bool.false_and])
  dsimp only
  first|go_values|go_step|go_upon
  refine tN 2 (by kernel_rfl) ?_
  intro a' h1 h2
  go_wp2_with fail
  refine bodyPost_ret (results_tmp (t:=2) (by rfl) _ _ _) h2 ?_
  exact⟨by rw[h1,HN.out],ag hB hb4⟩
 try dsimp only
 go_wp2_with fail
 have hbx:=ay hb4 (.cells #[.int .i64 d.jF,.int .i64 d.jG] 3)
 refine(FD _ _ _ 2147483648 [d.jF,d.jG] _ (aep _ _ (by simp[go_sem]) (by simp[go_sem]))).mono ?_
 rintro e w5 ⟨rfl,hy⟩
 have hb5:=ag hbx hy
 clear hcc bf hrr hsz hbx hy
 obtain⟨hcc,bf,hrr⟩:=aQ hb5
 have hsz:w.heap.size<w5.heap.size:=by have:=hb5.size;simp at this;omega
 cases c7:([d.jF,d.jG].all fun v=>aC v 0 2147483648)
 ·have HN:=Lib.hid (show jB d=false by rw[jB,c7];simp only[Bool.and_false,Bool.false_and])
  dsimp only
  first|go_values|go_step|go_upon
  refine tN 2 (by kernel_rfl) ?_
  intro a' h1 h2
  go_wp2_with fail
  refine bodyPost_ret (results_tmp (t:=2) (by rfl) _ _ _) h2 ?_
  exact⟨by rw[h1,HN.out],ag hB hb5⟩
 try dsimp only
 go_wp2_with fail
 have hbx:=ay hb5 (.cells #[.int .i64 d.fails] 3)
 refine(FD _ _ _ 65535 [d.fails] _ (Sj _ (by simp[go_sem]))).mono ?_
 rintro e w6 ⟨rfl,hy⟩
 have hb6:=ag hbx hy
 clear hcc bf hrr hsz hbx hy
 obtain⟨hcc,bf,hrr⟩:=aQ hb6
 have hsz:w.heap.size<w6.heap.size:=by have:=hb6.size;simp at this;omega
 cases c8:([d.fails].all fun v=>aC v 0 65535)
 ·have HN:=Lib.hid (show jB d=false by rw[jB,c8];simp only[Bool.and_false,Bool.false_and])
  dsimp only
  first|go_values|go_step|go_upon
  refine tN 2 (by kernel_rfl) ?_
  intro a' h1 h2
  go_wp2_with fail
  refine bodyPost_ret (results_tmp (t:=2) (by rfl) _ _ _) h2 ?_
  exact⟨by rw[h1,HN.out],ag hB hb6⟩
 try dsimp only
 go_wp2_with fail
 have hbx:=hb6
 refine(RX _ _ d.targets _ (he.targets.later (ag hB hbx))).mono ?_
 rintro e w7 ⟨rfl,hy⟩
 have hb7:=ag hbx hy
 clear hcc bf hrr hsz hbx hy
 obtain⟨hcc,bf,hrr⟩:=aQ hb7
 have hsz:w.heap.size<w7.heap.size:=by have:=hb7.size;simp at this;omega
 cases c9:different d.targets
 ·have HN:=Lib.hid (show jB d=false by rw[jB,c9];simp only[Bool.and_false,Bool.false_and])
  dsimp only
  first|go_values|go_step|go_upon
  refine tN 2 (by kernel_rfl) ?_
  intro a' h1 h2
  go_wp2_with fail
  refine bodyPost_ret (results_tmp (t:=2) (by rfl) _ _ _) h2 ?_
  exact⟨by rw[h1,HN.out],ag hB hb7⟩
 try dsimp only
 go_wp2_with fail
 have hbx:=hb7
 refine(RX _ _ d.bW _ (he.bW.later (ag hB hbx))).mono ?_
 rintro e w8 ⟨rfl,hy⟩
 have hb8:=ag hbx hy
 clear hcc bf hrr hsz hbx hy
 obtain⟨hcc,bf,hrr⟩:=aQ hb8
 have hsz:w.heap.size<w8.heap.size:=by have:=hb8.size;simp at this;omega
 cases c10:different d.bW
 ·have HN:=Lib.hid (show jB d=false by rw[jB,c10];simp only[Bool.and_false,Bool.false_and])
  dsimp only
  first|go_values|go_step|go_upon
  refine tN 2 (by kernel_rfl) ?_
  intro a' h1 h2
  go_wp2_with fail
  refine bodyPost_ret (results_tmp (t:=2) (by rfl) _ _ _) h2 ?_
  exact⟨by rw[h1,HN.out],ag hB hb8⟩
 have HN:=Lib.hid (show jB d=(decide ((d.history.length:Int)≤16)&&d.history.all (fun h=>(h.length:Int) == 16)) by rw[jB,c1,c2,c3,c4,c5,c6,c7,c8,c9,c10];rfl)
 try dsimp only
 go_wp2_with fail
 refine(adr r.history.a r.history.cap 122 16 d.history (fun h=>(h.length:Int) == 16) _ aes (he.history.later (ag hB hb8)) (fun y t p _ _=>aer _ _ _ _)).mono ?_
 rintro e w99 ⟨rfl,hy⟩
 try dsimp only
 go_wp2_with fail
 go_ret
 exact⟨by rw[HN.out];rfl,ag (ag hB hb8) hy⟩
end Go.Proofs.YtpfifochimkpfaaGreatDoor
namespace Go.WW
theorem wZ{d:Entry}{p:ah}{now:Int}(h:fK d p now=true):Small d p∧0≤now∧now≤1099511627776∧p.fails≤1000:=by
 simp only[fK,bI,dA,jl,jc,aC,Bool.and_eq_true,decide_eq_true_eq]at h
 obtain⟨⟨he,hp⟩,hn⟩:=h
 exact⟨⟨by omega,by omega,by omega,by omega,by omega,by omega,by omega,by omega,by omega⟩,by omega,by omega,by omega⟩
end Go.WW
namespace Go.Proofs.YtpfifochimkpfaaGreatDoor
open Go.RowKit Go.WW
theorem CS(r:aK)(d:Entry)(p:ah)(now:Int)(w:World)(he:aS w r d)(hs:p.name.size≤lim) :
  Calls Tryz.prog 57 #[.agg (ae r d),.agg (ak p),.int .i64 now] w fun e w'=>e=.returned (.bool (fK d p now))∧Below w.heap.size w w':=by
 go_enter Tryz.func57,Tryz.ntmps57
 have hB:Below w.heap.size w ((w.alloc (.cells (ae r d) 44)).alloc (.cells (ak p) 52)):=((Below.refl _ _).alloc (Nat.le_refl _) _).alloc (by simp) _
 go_wp2_with fail
 refine(yE _ _ _ (he.later hB)).mono ?_
 rintro e w2 ⟨rfl,hb2⟩
 have hB2:=hB.trans (hb2.mono (by simp;omega))
 obtain⟨hc,hf,hr⟩:=aQ hb2
 have hsz:w.heap.size+1<w2.heap.size:=by have:=hb2.size;simp at this;omega
 cases h1:bI d
 ·have HN:=Lib.hid (acP (p:=p) (now:=now) h1)
  go_wp2_with fail
  all_goals go_ret
  all_goals exact⟨by rw[HN.out];rfl,hB2⟩
 go_wp2_with fail
 refine(Cj _ _ hs).mono ?_
 rintro e w3 ⟨rfl,hb3⟩
 have hB3:=hB2.trans (hb3.mono hB2.size)
 cases h2:dA p
 ·have HN:=Lib.hid (acQ (d:=d) (now:=now) h2)
  go_wp2_with fail
  all_goals go_ret
  all_goals exact⟨by rw[HN.out];rfl,hB3⟩
 have HN:=Lib.hid (acR (now:=now) h1 h2)
 go_wp2_with (go_at_call 34;refine(EY _ _).mono ?_;rintro e w' ⟨rfl,rfl⟩)
 all_goals go_ret
 all_goals exact⟨by rw[HN.out];rfl,hB3⟩
theorem J8(r:aK)(d:Entry)(p:ah)(now:Int)(w:World)(he:aS w r d)(hs:p.name.size≤lim) :
  Calls Tryz.prog 21 #[.agg (ae r d),.agg (ak p),.int .i64 now] w fun e w'=>e=.returned (.tuple #[.int .i64 (if fK d p now then countOf d p now else 0),.int .i64 (if fK d p now then 0 else 2)])∧Below w.heap.size w w':=by
 go_enter Tryz.func21,Tryz.ntmps21
 have hB:Below w.heap.size w ((w.alloc (.cells (ae r d) 44)).alloc (.cells (ak p) 52)):=((Below.refl _ _).alloc (Nat.le_refl _) _).alloc (by simp) _
 go_wp2_with fail
 refine(CS _ _ _ _ _ (he.later hB) hs).mono ?_
 rintro e w2 ⟨rfl,hb2⟩
 have hB2:=hB.trans (hb2.mono (by simp;omega))
 obtain⟨hc,hf,hr⟩:=aQ hb2
 have hsz:w.heap.size+1<w2.heap.size:=by have:=hb2.size;simp at this;omega
 cases h1:fK d p now
 ·go_wp2_with fail
  all_goals go_ret2
  all_goals exact⟨rfl,hB2⟩
 obtain⟨hsm,-,-,-⟩:=wZ h1
 go_wp2_with fail
 refine(JW _ _ _ _ _ hsm).mono ?_
 rintro e w3 ⟨rfl,hb3⟩
 go_wp2_with fail
 all_goals go_ret2
 all_goals exact⟨rfl,ag hB2 hb3⟩
theorem aeu(r:aK)(d:Entry)(p:ah)(now:Int)(w:World)(he:aS w r d)(hs:p.name.size≤lim) :
  Calls Tryz.prog 62 #[.agg (ae r d),.agg (ak p),.int .i64 now] w fun e w'=>e=.returned (.tuple #[.bool (fK d p now&&fZ d p now),.int .i64 (if fK d p now then 0 else 2)])∧Below w.heap.size w w':=by
 go_enter Tryz.func62,Tryz.ntmps62
 have hB:Below w.heap.size w ((w.alloc (.cells (ae r d) 44)).alloc (.cells (ak p) 52)):=((Below.refl _ _).alloc (Nat.le_refl _) _).alloc (by simp) _
 go_wp2_with fail
 refine(CS _ _ _ _ _ (he.later hB) hs).mono ?_
 rintro e w2 ⟨rfl,hb2⟩
 have hB2:=hB.trans (hb2.mono (by simp;omega))
 obtain⟨hc,hf,hr⟩:=aQ hb2
 have hsz:w.heap.size+1<w2.heap.size:=by have:=hb2.size;simp at this;omega
 cases h1:fK d p now
 ·go_wp2_with fail
  all_goals go_ret2
  all_goals exact⟨rfl,hB2⟩
 obtain⟨hsm,-,-,-⟩:=wZ h1
 go_wp2_with fail
 refine(yA _ _ _ _ _ hsm).mono ?_
 rintro e w3 ⟨rfl,hb3⟩
 go_wp2_with fail
 all_goals go_ret2
 all_goals exact⟨rfl,ag hB2 hb3⟩
theorem Sm(r:aK)(d:Entry)(p:ah)(now:Int)(w:World)(he:aS w r d)(hs:p.name.size≤lim) :
  Calls Tryz.prog 22 #[.agg (ae r d),.agg (ak p),.int .i64 now] w fun e w'=>e=.returned (.tuple #[.int .i64 (if fK d p now&&fZ d p now then Au d p else 0),.int .i64 (if fK d p now then(if fZ d p now then 0 else 8)else 2)])∧Below w.heap.size w w':=by
 go_enter Tryz.func22,Tryz.ntmps22
 have hB:Below w.heap.size w ((w.alloc (.cells (ae r d) 44)).alloc (.cells (ak p) 52)):=((Below.refl _ _).alloc (Nat.le_refl _) _).alloc (by simp) _
 go_wp2_with fail
 refine(CS _ _ _ _ _ (he.later hB) hs).mono ?_
 rintro e w2 ⟨rfl,hb2⟩
 have hB2:=hB.trans (hb2.mono (by simp;omega))
 obtain⟨hc,hf,hr⟩:=aQ hb2
 have hsz:w.heap.size+1<w2.heap.size:=by have:=hb2.size;simp at this;omega
 cases h1:fK d p now
 ·go_wp2_with fail
  all_goals go_ret2
  all_goals exact⟨rfl,hB2⟩
 obtain⟨hsm,-,-,-⟩:=wZ h1
 obtain⟨l0,l1,f0,f1,x0,x1,k0,k1,m0⟩:=hsm
 have hsm:Small d p:=⟨l0,l1,f0,f1,x0,x1,k0,k1,m0⟩
 go_wp2_with fail
 refine(yA _ _ _ _ _ hsm).mono ?_
 rintro e w3 ⟨rfl,hb3⟩
 have mG:=ag hb2 hb3
 have hB3:=ag hB2 hb3
 clear hc hf hr hsz
 obtain⟨hc,hf,hr⟩:=aQ mG
 have hsz:w.heap.size+1<w3.heap.size:=by have:=mG.size;simp at this;omega
 cases h2:fZ d p now
 ·go_wp2_with fail
  all_goals go_ret2
  all_goals exact⟨rfl,hB3⟩
 go_wp2_with fail
 clear hc hf hr hsz
 by_cases hq:p.lock=0
 ·have HX:=Lib.hid (show Au d p=0 by rw[Au,if_pos hq])
  have hq':(p.lock == 0)=true:=by simp[hq]
  clear hq
  refine nz mG (by kernel_rfl) (by kernel_rfl) ?_
  intro w4 hb4
  obtain⟨hc,hf,hr⟩:=aQ hb4
  have hsz:w.heap.size+1<w4.heap.size:=by have:=hb4.size;simp at this;omega
  repeat (first|(refine ai (by rfl) ?_)|(refine au (by rfl) (by rfl) (fun K hK=>?_);go_big_quiet_op;refine hK _ ?_;clear hK K))
  refine aB (by rfl) (by rfl) (fun K hK=>?_)
  go_wp2_with fail
  have hb5:=ay hb4 (.cells #[.int .i64 d.dw,.int .i64 p.lock] 3)
  refine hK _ _ (aj hb5) ?_
  clear hK K
  repeat (first|(refine ai (by rfl) ?_)|(refine au (by rfl) (by rfl) (fun K hK=>?_);go_big_quiet_op;refine hK _ ?_;clear hK K))
  refine aB (by rfl) (by rfl) (fun K hK=>?_)
  go_wp2_with fail
  refine(Fz _ _ d.dw p.lock _ (by simp[go_sem]) (by simp[go_sem]) ⟨l0,l1⟩ ⟨k0,k1⟩).mono ?_
  rintro e w5 ⟨rfl,rfl⟩
  go_wp2_with fail
  refine hK _ _ (aj hb5) ?_
  clear hK K
  repeat (first|(refine ai (by rfl) ?_)|(refine au (by rfl) (by rfl) (fun K hK=>?_);go_big_quiet_op;refine hK _ ?_;clear hK K))
  refine aB (by rfl) (by rfl) (fun K hK=>?_)
  go_wp2_with fail
  refine(yj _ _ _ _).mono ?_
  rintro e w6 ⟨rfl,rfl⟩
  go_wp2_with fail
  refine hK _ _ (aj hb5) ?_
  clear hK K
  repeat (first|(refine ai (by rfl) ?_)|(refine au (by rfl) (by rfl) (fun K hK=>?_);go_big_quiet_op;refine hK _ ?_;clear hK K))
  refine bz ?_
  go_wp2_with fail
  all_goals go_ret2
  all_goals exact⟨by rw[HX.out];rfl,hB.trans (hb5.mono (by simp;omega))⟩
 ·have HX:=Lib.hid (show Au d p=min (d.dw+p.lock) 1099511627776 by rw[Au,if_neg hq])
  have hq':(p.lock == 0)=false:=by simp[hq]
  clear hq
  refine nz mG (by kernel_rfl) (by kernel_rfl) ?_
  intro w4 hb4
  obtain⟨hc,hf,hr⟩:=aQ hb4
  have hsz:w.heap.size+1<w4.heap.size:=by have:=hb4.size;simp at this;omega
  repeat (first|(refine ai (by rfl) ?_)|(refine au (by rfl) (by rfl) (fun K hK=>?_);go_big_quiet_op;refine hK _ ?_;clear hK K))
  refine aB (by rfl) (by rfl) (fun K hK=>?_)
  go_wp2_with fail
  have hb5:=ay hb4 (.cells #[.int .i64 d.dw,.int .i64 p.lock] 3)
  refine hK _ _ (aj hb5) ?_
  clear hK K
  repeat (first|(refine ai (by rfl) ?_)|(refine au (by rfl) (by rfl) (fun K hK=>?_);go_big_quiet_op;refine hK _ ?_;clear hK K))
  refine aB (by rfl) (by rfl) (fun K hK=>?_)
  go_wp2_with fail
  refine(Fz _ _ d.dw p.lock _ (by simp[go_sem]) (by simp[go_sem]) ⟨l0,l1⟩ ⟨k0,k1⟩).mono ?_
  rintro e w5 ⟨rfl,rfl⟩
  go_wp2_with fail
  refine hK _ _ (aj hb5) ?_
  clear hK K
  repeat (first|(refine ai (by rfl) ?_)|(refine au (by rfl) (by rfl) (fun K hK=>?_);go_big_quiet_op;refine hK _ ?_;clear hK K))
  refine aB (by rfl) (by rfl) (fun K hK=>?_)
  go_wp2_with fail
  refine(yj _ _ _ _).mono ?_
  rintro e w6 ⟨rfl,rfl⟩
  go_wp2_with fail
  refine hK _ _ (aj hb5) ?_
  clear hK K
  repeat (first|(refine ai (by rfl) ?_)|(refine au (by rfl) (by rfl) (fun K hK=>?_);go_big_quiet_op;refine hK _ ?_;clear hK K))
  refine bz ?_
  go_wp2_with fail
  all_goals go_ret2
  all_goals exact⟨by rw[HX.out];rfl,hB.trans (hb5.mono (by simp;omega))⟩
end Go.Proofs.YtpfifochimkpfaaGreatDoor
namespace Go.WW
open Go.RowKit
theorem Own.empty(w:World)(e:TypeId)(k:Nat):Own (w.alloc (.cells #[] e)) w.heap.size e k ⟨some ⟨w.heap.size,0,none⟩,0⟩ []:=
 ⟨World.ownsRow_made w #[] 0 (Nat.le_refl _) (by unfold maxLen;omega) (by simp),by simp⟩
theorem Own.fresh{w w':World}{base:Nat}{e:TypeId}{k:Nat}{s:Sl}{rows:List (Array Value)}(h:Own w base e k s rows)(hw:∀j,fresh base w j→w'.heap[j]?=w.heap[j]?):Own w' base e k s rows:=
 h.kept fun _ hg=>hw _ (h.base hg)
def ane(w:World)(l:List ByteArray)(e:Ending)(w':World):Prop:=
 ∃s:Sl,e=.returned (.slice s.a l.length s.cap)∧Below w.heap.size w w'∧bu w' (fresh w.heap.size w') (fun x=>jH x s.a l)
def CU(w:World)(l:List UInt8)(e:Ending)(w':World):Prop:=
 ∃s:Sl,e=.returned (.slice s.a l.length s.cap)∧Below w.heap.size w w'∧bu w' (fresh w.heap.size w') (fun x=>BytesAt x s.a l)
theorem aev{l:List ByteArray}(i:Nat)(v:Value)(h:∃s,l[i]?=some s∧v=.string s∧s.size≤lim):v.oneCell'=true:=by obtain⟨s,_,rfl,_⟩:=h;rfl
theorem J9{l:List UInt8}(i:Nat)(v:Value)(h:∃c,l[i]?=some c∧v=.int .u8 c.toNat):v.oneCell'=true:=by obtain⟨s,_,rfl⟩:=h;rfl
theorem Sr{w w':World}{e:TypeId}{s:Sl}{rows:List (Array Value)}{l:List UInt8}(h:Own w' w.heap.size e 1 s rows)(hl:rows.length=l.length)(hn:l.length≤lim)(hb:Below w.heap.size w w')
  (hR:∀i (hi:i<rows.length),∃v,rows[i]=#[v]∧∃c,l[i]?=some c∧v=.int .u8 c.toNat):CU w l (.returned (.slice s.a l.length s.cap)) w':=
 ⟨s,rfl,hb,fun _ hx=>dO.iM (h.fresh hx) hl hn hR⟩
theorem dO.none{w:World}{n:Nat}{R:Nat→Value→Prop}(h:dO w none n R):n=0:=by
 rcases h.addr with h|⟨b,o,h,_⟩
 ·exact h
 ·cases h
theorem cO.later{w w':World}{k:Nat}{A:Option Addr}{rows:List (Array Value)}(h:cO w k A rows)(hb:Below w.heap.size w w'):cO w' k A rows:=
 ⟨h.size,h.one,fun i hi=>by obtain⟨b,o,h1,h2⟩:=h.at_ i hi;exact⟨b,o,h1,by rw[fG (hb.block b (fA h2))];exact h2⟩⟩
end Go.WW
namespace Go.Proofs.YtpfifochimkpfaaGreatDoor
open Go.RowKit Go.WW
theorem aew(cap:Nat)(w:World):(binOp .eql 33 (.slice none 0 cap) (.slice none 0 0)).run Tryz.prog w=.ok (.bool true) w:=by kernel_rfl
theorem aex(ad:Addr)(n cap:Nat)(w:World):(binOp .eql 33 (.slice (some ad) n cap) (.slice none 0 0)).run Tryz.prog w=.ok (.bool false) w:=by kernel_rfl
theorem aey(cap:Nat)(w:World):(binOp .eql 58 (.slice none 0 cap) (.slice none 0 0)).run Tryz.prog w=.ok (.bool true) w:=by kernel_rfl
theorem aez(ad:Addr)(n cap:Nat)(w:World):(binOp .eql 58 (.slice (some ad) n cap) (.slice none 0 0)).run Tryz.prog w=.ok (.bool false) w:=by kernel_rfl
attribute [go_sem] aew aex aey aez
theorem aeA:fV Tryz.prog 33 9 1 16:=fV.of Tryz.underlying33 (by kernel_rfl)
theorem aeB(a:Option Addr)(cap:Nat)(l:List UInt8)(w:World)(hl:BytesAt w a l):Calls Tryz.prog 108 #[.slice a l.length cap] w (CU w l):=by
 have hn:l.length≤4294967000:=hl.1
 obtain⟨rows,hlr,o8,hrR⟩:=dO.src hl J9
 have hown:=Go.WW.Own.nil w w.heap.size 5 1
 have lS:=Lib.hid hlr
 have HRR:=Lib.hid hrR
 have CV:=Lib.hid hl.1
 clear hlr hrR hl
 go_enter Tryz.func108,Tryz.ntmps108
 go_wp2_with (at_builtin;refine gW rfl (.const (.slice none 0 0)) (.tmp 3) _ rfl eP (n:=0) (s:=⟨none,0⟩) rfl rfl hown rfl lS.out.symm o8 (by rw[lS.out];simp;omega) (by simp) ?_;intro s3 w3 hown3 hg3 iD)
 go_ret
 have hb3:Below w.heap.size w w3:=(Below.refl _ w).grown hg3 (by simp) (fun k e=>by cases e)
 have:=Sr (l:=l) hown3 (by simpa using lS.out) CV.out hb3 (fun i hi=>by simpa using HRR.out i (by simpa using hi))
 simpa using this
end Go.Proofs.YtpfifochimkpfaaGreatDoor
namespace Go.WW
open Go.RowKit
def aeC(w:World)(p:aH)(e:Ending)(w':World):Prop:=
 ∃s:Sl,e=.returned (.agg (az s p))∧Below w.heap.size w w'∧bu w' (fresh w.heap.size w') (fun x=>bK x s p)
theorem jJ{w:World}{p:Addr}{v:Value}{k o n:Nat}(h:k≠p.block):aX (w.setCell p v) k o n=aX w k o n:=EN (Below.heap_setCell w p v k h) o n
theorem kS(w:World)(a b:Obj):((w.alloc a).alloc b).heap[w.heap.size]?=some a:=by
 rw[Below.heap_alloc _ _ _ (by simp)];exact World.alloc_heap_new w a
attribute [go_sem] jJ
end Go.WW
namespace Go.Proofs.YtpfifochimkpfaaGreatDoor
open Go.RowKit Go.WW
end Go.Proofs.YtpfifochimkpfaaGreatDoor
namespace Go.WW
open Go.RowKit
structure jZ(E:TypeId)(kk:Nat)(R:World→Nat→Array Value→Prop)(wr:World)(base:Nat)(so:Sl)(rows:List (Array Value)):Prop where
 own:Own wr base E kk so rows
 each:∀i (hi:i<rows.length),bu wr (abb base wr so.blk) (fun x=>R x i rows[i])
theorem jZ.nil(E:TypeId)(kk:Nat)(R:World→Nat→Array Value→Prop)(w:World)(base:Nat):jZ E kk R w base ⟨none,0⟩ []:=⟨Own.nil w base E kk,fun i hi=>by simp at hi⟩
theorem jZ.carry{E:TypeId}{kk:Nat}{R:World→Nat→Array Value→Prop}{wr w2:World}{base:Nat}{so:Sl}{rows:List (Array Value)}(h:jZ E kk R wr base so rows)(hb:Below wr.heap.size wr w2)(o:Obj):Own (w2.alloc o) base E kk so rows:=
 h.own.kept fun g hg=>by rw[Below.heap_alloc _ _ _ (Nat.lt_of_lt_of_le (h.own.base hg).2 hb.size)];exact hb.block g (h.own.base hg).2
theorem jZ.step{E:TypeId}{kk:Nat}{R:World→Nat→Array Value→Prop}{wr w1 w2 w3:World}{base:Nat}{so s3:Sl}{rows:List (Array Value)}{cs:Array Value}{o:Obj}(h:jZ E kk R wr base so rows)(hb1:Below wr.heap.size wr w1)(hb:Below w1.heap.size w1 w2)
  (hnew:bu w2 (fresh w1.heap.size w2) (fun x=>R x rows.length cs)) (hown:Own w3 base E kk s3 (rows++[cs])) (hg:(w2.alloc o).grownBy w3 so.blk) (hat:s3.blk=so.blk∨s3.blk=some (w2.alloc o).heap.size) (hbase:base≤wr.heap.size):jZ E kk R w3 base s3 (rows++[cs]):=by
 have hs1:=hb1.size
 have hs2:=hb.size
 have hs3:=hg.size
 have hsa:(w2.alloc o).heap.size=w2.heap.size+1:=by simp
 have hso:∀g,so.blk=some g→g<wr.heap.size:=fun g hg=>(h.own.base hg).2
 refine⟨hown,fun i hi=>?_⟩
 by_cases hlt:i<rows.length
 ·rw[List.getElem_append_left hlt]
  refine(h.each i hlt).to (fun k hk=>?_) (fun k hk=>⟨hk.1,by have:=hk.2.1;omega,?_⟩)
  ·have hk1:=hk.2.1
   rw[hg.block k (by omega) hk.2.2,Below.heap_alloc _ _ _ (by omega),hb.block k (by omega),hb1.block k hk1]
  ·have hk1:=hk.2.1
   rcases hat with e|e
   ·rw[e];exact hk.2.2
   ·rw[e];intro h';cases h';omega
 ·obtain rfl:i=rows.length:=by simp at hi;omega
  rw[List.getElem_append_right (by omega)]
  simp only[Nat.sub_self,List.getElem_cons_zero]
  refine hnew.to (fun k hk=>?_) (fun k hk=>⟨by have:=hk.1;omega,by have:=hk.2;omega,?_⟩)
  ·have hk1:=hk.1
   have hk2:=hk.2
   rw[hg.block k (by omega) (fun e=>by have:=hso k e.symm;omega),Below.heap_alloc _ _ _ hk2]
  ·have hk1:=hk.1
   have hk2:=hk.2
   rcases hat with e|e
   ·intro h';have:=hso k (e▸h'.symm);omega
   ·rw[e];intro h';cases h';omega
theorem jZ.done{E:TypeId}{kk n:Nat}{R:World→Nat→Array Value→Prop}{w':World}{base:Nat}{so:Sl}{rows:List (Array Value)}(h:jZ E kk R w' base so rows)(hn:rows.length=n)(hl:n≤lim):bu w' (fresh base w') (fun x=>bH x kk so.a n (R x)):=fun x hx=>
 bH.iM (h.own.fresh hx) hn hl (fun i hi=>h.each i hi x (fun k hk=>hx k ⟨hk.1,hk.2.1⟩))
def CW(Φ:World→Sl→Prop)(n:Nat)(w:World)(e:Ending)(w':World):Prop:=∃s:Sl,e=.returned (.slice s.a n s.cap)∧Below w.heap.size w w'∧bu w' (fresh w.heap.size w') (fun x=>Φ x s)
theorem CX{W wr w1 w2 w3:World}{so:Sl}{o:Obj}{E:TypeId}{kk:Nat}{R:World→Nat→Array Value→Prop}{rows:List (Array Value)}(h:jZ E kk R wr W.heap.size so rows)(hb:Below W.heap.size W wr)(hb1:Below wr.heap.size wr w1)(hb2:Below w1.heap.size w1 w2)(hg:(w2.alloc o).grownBy w3 so.blk):Below W.heap.size W w3:=
 have h2:=ag (ag hb hb1) hb2
 (h2.alloc h2.size o).grown hg (by have:=h2.size;simp;omega) (fun _ e=>(h.own.base e).1)
end Go.WW
namespace Go.Proofs.YtpfifochimkpfaaGreatDoor
open Go.RowKit Go.WW
theorem Su:fV Tryz.prog 24 35 2 40:=fV.of Tryz.underlying24 (by kernel_rfl)
theorem aeD:fV Tryz.prog 78 176 3 40:=fV.of Tryz.underlying78 (by kernel_rfl)
theorem aeE:fV Tryz.prog 41 80 5 64:=fV.of Tryz.underlying41 (by kernel_rfl)
theorem pX:fV Tryz.prog 42 58 1 24:=fV.of Tryz.underlying42 (by kernel_rfl)
def Sv(l:List (List UInt8))(x:World)(i:Nat)(cs:Array Value):Prop:=∃v,cs=#[v]∧∃p,∃s:Sl,l[i]?=some p∧v=.slice s.a p.length s.cap∧BytesAt x s.a p
theorem aeF(a:Option Addr)(cap:Nat)(l:List (List UInt8))(w:World)(hl:dY w a l) :
  Calls Tryz.prog 107 #[.slice a l.length cap,.func (.func 108) #[] #[]] w (CW (fun x s=>dY x s.a l) l.length w):=by
 have hn:l.length≤4294967000:=hl.1
 rcases dO.addr hl with h0|⟨b,o,rfl,hb⟩
 ·obtain rfl:l=[]:=List.eq_nil_of_length_eq_zero h0
  go_enter Tryz.func107,Tryz.ntmps107
  go_wp2_with fail
  refine wp_loop_rounds 1 ?_
  rw[rounds_succ]
  go_wp2_with fail
  go_ret
  exact⟨⟨none,0⟩,rfl,Below.refl _ _,fun x _=>⟨by simp[lim],fun i hi=>by simp at hi⟩⟩
 go_enter Tryz.func107,Tryz.ntmps107
 go_wp2_with fail
 go_loopw [5,10] (fun ov i wr=>∃(k:Nat) (so:Sl) (rows:List (Array Value)),k≤l.length∧i=.int .i64 k∧ov=.slice so.a k so.cap∧Hid (rows.length=k)∧Below w.heap.size w wr∧jZ 58 1 (Sv l) wr w.heap.size so rows) (fun _ i _=>l.length-(intOf i).toNat)
 case atStart=>exact⟨0,⟨none,0⟩,[],Nat.zero_le _,rfl,rfl,rfl,Below.refl _ _,jZ.nil _ _ _ _ _⟩
 case round=>
  obtain⟨k,so,rows,hk,rfl,rfl,hlr,hbr,hC⟩:=hrel
  by_cases hlt:k<l.length
  ·obtain⟨t,hc,hp⟩:=hl.at k hlt
   obtain⟨hcc,bf,hrr⟩:=aQ hbr
   go_wp2_with fail
   have hb1:Below wr.heap.size wr wr:=Below.refl _ _
   refine(aeB _ _ _ _ (hp.later (ag hbr hb1))).mono ?_
   rintro e w2 ⟨s',rfl,hb2,hd2⟩
   have hr2:=ag hb1 hb2
   have hown:=hC.carry hr2 (.cells #[Value.slice s'.a l[k].length s'.cap] 58)
   clear hcc bf hrr
   go_wp2_with (at_builtin;refine gW rfl (.tmp 14) (.tmp 18) _ rfl pX (n:=k) rfl hlr.out.symm hown rfl rfl (cO.new _ #[Value.slice s'.a l[k].length s'.cap] _ _ (by simp[go_sem]) (by simp[go_sem,dL,Value.oneCell'])) (by have:=hlr.out;rw[this];simp;omega) (by have h9:=hbr.size;have h8:=hr2.size;simp;omega) ?_;intro s3 w3 hown3 hg3 iD)
   have yF:=hC.step hb1 hb2 (o:=.cells #[Value.slice s'.a l[k].length s'.cap] 58) (R:=Sv l) (fun x hx=>⟨_,rfl,l[k],s',by rw[hlr.out];exact List.getElem?_eq_getElem hlt,rfl,hd2 x hx⟩) hown3 hg3 iD hbr.size
   have hb3:=CX hC hbr hb1 hb2 hg3
   have HL:=Lib.hid (show(rows++[#[Value.slice s'.a l[k].length s'.cap]]).length=k+1 by have:=hlr.out;simp[this])
   clear hown hown3 hg3 iD hC hd2 hr2 hb1 hb2 hlr
   go_wp2_with fail
   go_roundw
   case rel=>exact⟨k+1,s3,_,by omega,by go_num,rfl,HL.out,hb3,yF⟩
   case measure=>simp[intOf];omega
  ·obtain rfl:k=l.length:=by omega
   go_wp2_with fail
   go_ret
   exact⟨so,rfl,hbr,fun x hx=>dO.iM (hC.own.fresh hx) hlr.out hl.1 (fun i hi=>hC.each i hi x (fun j hj=>hx j ⟨hj.1,hj.2.1⟩))⟩
end Go.Proofs.YtpfifochimkpfaaGreatDoor
namespace Go.WW
open Go.RowKit
def aeG(w:World)(d:Entry)(e:Ending)(w':World):Prop:=∃r:aK,e=.returned (.agg (ae r d))∧Below w.heap.size w w'∧bu w' (fresh w.heap.size w') (fun x=>aS x r d)
theorem run_loadVar_row{P:Program}{T:TypeId}{d:TypeDesc}{n:Nat}(hu:P.underlying T=some d)(hd:d.isRow=true)(hi:(P.info? T).map (·.size)=some n){w:World}{b o:Nat}{cs:Array Value}(h:row? w b o n=some cs) :
  (loadVar T ⟨b,o,none⟩).run P w=.ok (.agg cs) w:=by
 have hs:=x8 h
 have:=run_loadVar_mid (P:=P) w b o T cs.toList d (Py h) hu hd (by rw[hi];simp[hs])
 simpa using this
theorem xe{P:Program}{fn:Func}{a:Tmp}{T:TypeId}{d:TypeDesc}{n:Nat}(hf:fn.results=#[.cell a T])(hu:P.underlying T=some d)(hd:d.isRow=true)(hi:(P.info? T).map (·.size)=some n){tmps:Array Value}{w:World}{b o:Nat}{cs:Array Value}(ha:tmps.getD a undef=.pointer (some ⟨b,o,none⟩))(h:row? w b o n=some cs) :
  (results fn tmps).run P w=.ok (.agg cs) w:=by
 have hl:=run_loadVar_row hu hd hi h
 have ha':(asAddr (tmps.getD a undef)).run P w=.ok ⟨b,o,none⟩ w:=by rw[ha];rfl
 rw[Array.getD_eq_getD_getElem?]at ha'
 unfold results
 rw[hf]
 simp[Sem.run_bind,ha',hl,Result.andThen]
theorem kT{P:Program}{fn:Func}{a t:Tmp}{T:TypeId}{d:TypeDesc}{n:Nat}(hf:fn.results=#[.cell a T,.tmp t])(hu:P.underlying T=some d)(hd:d.isRow=true)(hi:(P.info? T).map (·.size)=some n){tmps:Array Value}{w:World}{b o:Nat}{cs:Array Value}(ha:tmps.getD a undef=.pointer (some ⟨b,o,none⟩))(h:row? w b o n=some cs) :
  (results fn tmps).run P w=.ok (.tuple #[.agg cs,tmps.getD t undef]) w:=by
 have hl:=run_loadVar_row hu hd hi h
 have ha':(asAddr (tmps.getD a undef)).run P w=.ok ⟨b,o,none⟩ w:=by rw[ha];rfl
 rw[Array.getD_eq_getD_getElem?]at ha'
 unfold results
 rw[hf]
 simp[Sem.run_bind,ha',hl,Result.andThen]
theorem ax{w:World}{b:Nat}{c:Array Value}{t:TypeId}(h:w.heap[b]?=some (.cells c t)):(∀o,w.cell? ⟨b,o,none⟩=c[o]?)∧(∀o,w.frozen? ⟨b,o,none⟩=false)∧(∀o n,row? w b o n=gy c o n)∧(b<w.heap.size):=
 ⟨fun o=>cell_of_row w b o c t _ h,fun o=>frozen_of_row w b o c t h,fun _ _=>dI h,(Array.getElem?_eq_some_iff.1 h).1⟩
end Go.WW
namespace Go.Proofs.YtpfifochimkpfaaGreatDoor
open Go.RowKit Go.WW
end Go.Proofs.YtpfifochimkpfaaGreatDoor
