/- A part of the proof. -/
import Derived.Test.YtaghcadlgbnbdaaGreatDoorProg
import Derived.Shelf.Small.Strs
import Derived.Test.YtaghcadlgbnbdaaGreatDoorA08
import Derived.Test.YtaghcadlgbnbdaaGreatDoorA02
import Derived.Test.YtaghcadlgbnbdaaGreatDoorA01
import Derived.Test.YtaghcadlgbnbdaaGreatDoorA05
import Derived.Test.YtaghcadlgbnbdaaGreatDoorA04
import Derived.Test.YtaghcadlgbnbdaaGreatDoorA10
import Derived.Test.YtaghcadlgbnbdaaGreatDoorA15
import Derived.Test.YtaghcadlgbnbdaaGreatDoorA06
set_option maxRecDepth 100000
set_option maxHeartbeats 16000000
namespace Go.Proofs
open Go.Shelf
def Tryz.apK:Go.Shelf.Ren:=⟨fun|106=>73|213=>123|265=>188|n=>n,fun|9=>9|3=>3|n=>n,fun|n=>n⟩
theorem Tryz.apL:Go.Proofs.Lays.n106 Tryz.prog Tryz.apK:={
 mixed:=by kernel_rfl
 f106:=Tryz.func73.trans (congrArg some (by kernel_rfl))
 f213:=Tryz.func123.trans (congrArg some (by kernel_rfl))
 f265:=Tryz.func188.trans (congrArg some (by kernel_rfl))
 t3:=Tryz.underlying3
 a3:=Tryz.isAgg3
 z3:=Tryz.sizeOf3
 v3:=Tryz.zeroValue3
 t9:=Tryz.underlying9
 a9:=Tryz.isAgg9
 z9:=Tryz.sizeOf9
 v9:=Tryz.zeroValue9}
open Go.RowKit in
theorem Tryz.strings_Compare(a b:ByteArray)(w:World) :
  Calls Tryz.prog 73 #[.string a,.string b] w fun e w'=>e=.returned (.int .i64 (Lib.compareBytes a.data.toList b.data.toList))∧w'=w:=Any.strings_Compare Tryz.apL a b w
end Go.Proofs
namespace Go.WW
open Go.RowKit
theorem aaN:∀a b:List UInt8,Lib.compareBytes a b=if Op.bytesLess a b then -1 else if Op.bytesLess b a then 1 else 0
 | [],[]=>by simp[Lib.compareBytes,Op.bytesLess]
 | [],_::_=>by simp[Lib.compareBytes,Op.bytesLess]
 |_::_,[]=>by simp[Lib.compareBytes,Op.bytesLess]
 |a::l,b::m=>by
  have ih:=aaN l m
  unfold Lib.compareBytes Op.bytesLess
  by_cases h1:a<b
  ·simp[h1]
  ·by_cases h2:b<a
   ·have hne:¬a=b:=fun e=>by subst e;exact h1 h2
    simp[h1,h2,hne]
   ·have e:a=b:=by
     apply UInt8.le_antisymm
     ·exact UInt8.not_lt.1 h2
     ·exact UInt8.not_lt.1 h1
    subst e
    simp[h1,ih]
theorem apM(a b:ByteArray):Lib.compareBytes a.data.toList b.data.toList=bQ a b:=by
 unfold bQ;rw[ByteArray.toList_eq,ByteArray.toList_eq];exact aaN _ _
def kS(w:World)(a:Option Addr)(X:List ah):Prop:=aO w 10 a X.length fun i cs=>∃x,X[i]?=some x∧cs=az x
theorem kS.later{w w':World}(h:Below w.heap.size w w'){a:Option Addr}{X:List ah}(x:kS w a X):kS w' a X:=aO.later h (fun _ _ y=>y) x
theorem kS.at{w:World}{b o:Nat}{X:List ah}(x:kS w (some ⟨b,o,none⟩) X)(i:Nat)(h:i<X.length):row? w b (o+i*10) 10=some (az X[i]):=by
 obtain⟨b',o',cs,ha,hr,y,hy,rfl⟩:=x.2 i h
 cases ha
 rw[List.getElem?_eq_getElem h]at hy
 cases hy;exact hr
theorem kS.dX{w:World}{base:Nat}{e:TypeId}{s:Sl}{X:List ah}(h:Own w base e 10 s (X.map az))(hn:X.length≤lim):kS w s.a X:=
 aO.dX h (by simp) hn (fun i hi=>⟨X[i]'(by simpa using hi),List.getElem?_eq_getElem (by simpa using hi),by simp⟩)
theorem kS.put{w:World}{g:Nat}{Y:List ah}(h:kS w (some ⟨g,0,none⟩) Y)(ho:Open w g (Y.length*10)){i:Nat}(hi:i<Y.length)(x:ah):kS (putRow w g (0+i*10) (az x)) (some ⟨g,0,none⟩) (Y.set i x):=by
 refine⟨by simpa using h.1,fun j hj=>?_⟩
 have hj':j<Y.length:=by simpa using hj
 have hs:=wY x
 by_cases e:j=i
 ·subst e
  exact⟨g,0,_,rfl,X9 ho (wY x) (by omega),x,by simp[hj'],rfl⟩
 ·obtain⟨b,o,cs,ha,hr,y,hy,rfl⟩:=h.2 j hj'
  cases ha
  refine⟨g,0,_,rfl,(X8 ho (by omega) (by omega)).trans hr,y,by rw[List.getElem?_set_ne (by omega)];exact hy,rfl⟩
theorem kS.block{w x:World}{g:Nat}{Y:List ah}(h:kS w (some ⟨g,0,none⟩) Y)(e:x.heap[g]?=w.heap[g]?):kS x (some ⟨g,0,none⟩) Y:=by
 refine⟨h.1,fun i hi=>?_⟩
 obtain⟨b,o,cs,ha,hr,hy⟩:=h.2 i hi
 cases ha
 exact⟨g,0,cs,rfl,(fO e _ _).trans hr,hy⟩
theorem Own.apN{w:World}{base:Nat}{e:TypeId}{s:Sl}{rows:List (Array Value)}{g:Nat}(h:Own w base e 10 s rows)(hg:s.a=some ⟨g,0,none⟩):Open w g (rows.length*10):=by
 rcases h.own.2 with⟨hv,_⟩|⟨g',cap,cur,hv,_,hh,hle,_,hsz,_⟩
 ·rw[hg]at hv;cases hv
 ·have ha:s.a=some ⟨g',0,none⟩:=by injection hv
  rw[hg]at ha;cases ha
  exact⟨cur,e,hh,by rw[hsz];exact Nat.mul_le_mul_right _ hle⟩
abbrev lI(q:ah):ByteArray:=q.name
end Go.WW
namespace Go.Proofs.YtaghcadlgbnbdaaGreatDoor
open Go.RowKit Go.WW
theorem apO:gJ Tryz.prog 42 35 10 88:=gJ.of Tryz.underlying42 (by kernel_rfl)
theorem aaO(p q:ah)(w:World):Calls Tryz.prog 72 #[.agg (az p),.agg (az q)] w fun e w'=>e=.returned (.int .i64 (bQ p.name q.name))∧Below w.heap.size w w':=by
 have hB:Below w.heap.size w ((w.alloc (.cells (az p) 35)).alloc (.cells (az q) 35)):=((Below.refl _ _).alloc (Nat.le_refl _) _).alloc (by simp) _
 go_enter Tryz.func72,Tryz.ntmps72
 go_wp2_with fail
 refine(Tryz.strings_Compare _ _ _).mono ?_
 rintro e w' ⟨rfl,rfl⟩
 go_wp2_with fail
 go_ret
 exact⟨by rw[apM];rfl,hB⟩
end Go.Proofs.YtaghcadlgbnbdaaGreatDoor
namespace Go.WW
open Go.RowKit
def Gw(w:World)(g:Nat)(T:TypeId):Prop:=∃c,w.heap[g]?=some (.cells c T)
theorem Gw.put{w:World}{g n o:Nat}{T:TypeId}{cs:Array Value}(h:Gw w g T)(ho:Open w g n)(hc:o+cs.size≤n):Gw (putRow w g o cs) g T:=by
 obtain⟨c,hc1⟩:=h
 obtain⟨c',t',hc2,hn⟩:=ho
 rw[hc1]at hc2
 cases hc2
 exact⟨_,pX hc1 (by omega)⟩
structure jY(g:Nat)(X Y:List ah)(w0 w:World):Prop where
 perm:Y.Perm X
 but:But (·=g) w0 w
 rows:kS w (some ⟨g,0,none⟩) Y
 opn:Open w g (Y.length*10)
 typ:Gw w g 35
theorem jY.step{g:Nat}{X Y:List ah}{w0 w w':World}(h:jY g X Y w0 w)(hb:Below w.heap.size w w'):jY g X Y w0 w':=by
 obtain⟨c,t,hc,_⟩:=h.opn
 have e:=hb.block g (Array.getElem?_eq_some_iff.1 hc).1
 exact⟨h.perm,h.but.trans (But.of_below hb),h.rows.later hb,h.opn.at e,by obtain⟨c,hc⟩:=h.typ;exact⟨c,e.trans hc⟩⟩
theorem jY.drew{g:Nat}{X Y:List ah}{w0 w:World}(h:jY g X Y w0 w):jY g X Y w0 w.drew:=h.step (Below.refl _ _).drew
theorem jY.swap{g:Nat}{X Y:List ah}{w0 w:World}(h:jY g X Y w0 w){j:Nat}(h1:j+1<Y.length):jY g X ((Y.set (j+1) Y[j]).set j Y[j+1]) w0 (putRow (putRow w g ((j+1)*10) (az Y[j])) g (j*10) (az Y[j+1])):=by
 have r1:=h.rows.put h.opn h1 Y[j]
 have s1:=wY Y[j]
 have s2:=wY Y[j+1]
 have o1:Open (putRow w g (0+(j+1)*10) (az Y[j])) g (Y.length*10):=h.opn.put (by omega)
 have r2:=r1.put (by simpa using o1) (i:=j) (by simp;omega) Y[j+1]
 rw[Nat.zero_add]at r2 o1
 rw[Nat.zero_add]at r2
 exact⟨(swap_perm h1).trans h.perm,(h.but.put rfl).put rfl,r2,by simpa using o1.put (by omega),(h.typ.put h.opn (by omega)).put o1 (by omega)⟩
end Go.WW
namespace Go.Proofs.YtaghcadlgbnbdaaGreatDoor
open Go.RowKit Go.WW
theorem apP(g cap:Nat)(X:List ah)(w:World)(hn:X.length≤12)(hX:jY g X X w w)(hD:(X.map lI).Nodup) :
  Calls Tryz.prog 267 #[.slice (some ⟨g,0,none⟩) X.length cap,.int .i64 0,.int .i64 X.length,.func (.func 72) #[] #[]] w fun e w'=>e=.returned (.tuple #[])∧∃Y,jY g X Y w w'∧Sorted bQ lI Y:=by
 have HD:=Lib.hid hD
 clear hD
 go_enter Tryz.func267,Tryz.ntmps267
 go_wp2_with fail
 go_loopw [8] (fun iv wr=>∃(i:Nat) (Y:List ah),1≤i∧i≤13∧iv=.int .i64 i∧Hid (jY g X Y w wr)∧Hid (Sorted bQ lI (Y.take i))) (fun iv _=>13-(intOf iv).toNat)
 case atStart=>exact⟨1,X,Nat.le_refl _,by omega,rfl,hX,by cases X<;>simp[Hid,Sorted]⟩
 case round=>
  obtain⟨i,Y,h1,h13,rfl,hS,hso⟩:=hrel
  have HL:=Lib.hid (hS.out.perm.length_eq)
  by_cases hlt:i<X.length
  ·have hki:(i:Int)<(X.length:Int):=by omega
   have HM:=Lib.hid (X3 hso.out (by rw[HL.out];exact hlt))
   go_wp2_with fail
   clear hso HL
   go_loopw [9] (fun jv wr=>∃(j:Nat) (Y:List ah),j≤i∧jv=.int .i64 j∧Hid (jY g X Y w wr)∧Hid (Mid bQ lI Y i j)) (fun jv _=>(intOf jv).toNat)
   case atStart=>exact⟨i,Y,Nat.le_refl _,rfl,hS,HM⟩
   case round=>
    clear hS HM
    obtain⟨j,Y,hj,rfl,hS,hM⟩:=hrel
    have HL:=Lib.hid (hS.out.perm.length_eq)
    cases j with
    |zero=>
     have HZ:=Lib.hid (mid_zero hM.out)
     go_wp2_with fail
     refine dP (Below.refl _ wr) (by kernel_rfl) (by kernel_rfl) ?_
     repeat (go_big_quiet_step (fail))
     refine wpQuiet_nil ?_
     intro w2 hb2
     have HS2:=Lib.hid (hS.out.step hb2)
     go_wp2_with fail
     go_roundw
     case rel=>exact⟨i+1,Y,by omega,by omega,by go_num,HS2.out,HZ.out⟩
     case measure=>simp[intOf];omega
    |succ j=>
     have hjl:j+1<Y.length:=by rw[HL.out];omega
     have hji:(0:Int)<((j+1:Nat):Int):=by omega
     have NI:((j+1:Nat):Int)<(X.length:Int):=by omega
     have hr1:=hS.out.rows.at (j+1) hjl
     have hr0:=hS.out.rows.at j (by omega)
     rw[Nat.zero_add]at hr1 hr0
     have hgw:g<wr.heap.size:=gq hr1
     by_cases hc:bQ Y[j+1].name Y[j].name<0
     ·have OH:=Lib.hid (mid_step hM.out hjl hc)
      have HS2:=Lib.hid (fun w2 hb2=>((hS.out.step (w':=w2) hb2)).drew.swap hjl)
      generalize Y[j+1]=x at *
      generalize Y[j]=z at *
      go_wp2_with fail
      refine dP (Below.refl _ wr) (by kernel_rfl) (by kernel_rfl) ?_
      repeat (go_big_quiet_step ((go_at_call 72;rename_i xw;exact Calls.gX (aaO _ _ _))))
      refine wpQuiet_nil ?_
      intro w2 hb2
      go_wp2_with fail
      have hr1':row? w2 g ((j+1)*10) 10=some (az x):=(fO (hb2.block g hgw) _ _).trans hr1
      have ajh:row? w2 g (j*10) 10=some (az z):=(fO (hb2.block g hgw) _ _).trans hr0
      have HO:=Lib.hid (hS.out.step hb2).opn
      have hp1:aJ w2 g ((j+1)*10) 10=true:=HO.out.can (by omega)
      have hp0:aJ (putRow w2.drew g ((j+1)*10) (az z)) g (j*10) 10=true:=Open.can (n:=Y.length*10) (Open.put (HO.out.at rfl) (by show(j+1)*10+10≤_;omega)) (by omega)
      have vk:Hid (jY g X ((Y.set (j+1) z).set j x) w (putRow (putRow w2.drew g ((j+1)*10) (az z)) g (j*10) (az x))):=HS2.out w2 hb2
      clear hr1 hr0 HS2 HO
      refine T3.Ue (·=g) (But.refl _ w2) (by kernel_rfl) (by kernel_rfl) ?_
      repeat (first|(refine T3.aP (by rfl) ?_)|(refine T3.gI (by rfl) (by rfl) (fun K hK=>?_);go_big_quiet_op;refine hK _ ?_;clear hK K)|(refine T3.AO (by rfl) (by rfl) (fun K hK=>?_);go_wp2_with fail))
      refine T3.jg (by rfl) (by rfl) (fun K hK=>?_)
      go_wp2_with fail
      have HB1:=Lib.hid (But.put (g:=g) (o:=(j+1)*10) (cs:=az z) (S:=(·=g)) (But.refl _ w2).drew rfl)
      generalize putRow w2.drew g ((j+1)*10) (az z)=V at *
      refine hK _ _ (bI HB1.out) ?_
      clear hK K
      repeat (first|(refine T3.aP (by rfl) ?_)|(refine T3.gI (by rfl) (by rfl) (fun K hK=>?_);go_big_quiet_op;refine hK _ ?_;clear hK K)|(refine T3.AO (by rfl) (by rfl) (fun K hK=>?_);go_wp2_with fail))
      refine T3.jg (by rfl) (by rfl) (fun K hK=>?_)
      go_wp2_with fail
      have HB2:=Lib.hid (But.put (g:=g) (o:=j*10) (cs:=az x) HB1.out rfl)
      generalize putRow V g (j*10) (az x)=U at *
      refine hK _ _ (bI HB2.out) ?_
      clear hK K
      repeat (first|(refine T3.aP (by rfl) ?_)|(refine T3.gI (by rfl) (by rfl) (fun K hK=>?_);go_big_quiet_op;refine hK _ ?_;clear hK K)|(refine T3.AO (by rfl) (by rfl) (fun K hK=>?_);go_wp2_with fail))
      refine T3.bW ?_
      go_wp2_with fail
      go_roundw
      case rel=>exact⟨j,(Y.set (j+1) z).set j x,by omega,rfl,vk,OH⟩
      case measure=>simp[intOf]
     ·have HZ:=Lib.hid (X4 oO hM.out hjl ((hS.out.perm.map lI).nodup_iff.2 HD.out) hc)
      generalize Y[j+1]=x at *
      generalize Y[j]=z at *
      go_wp2_with fail
      refine dP (Below.refl _ wr) (by kernel_rfl) (by kernel_rfl) ?_
      repeat (go_big_quiet_step ((go_at_call 72;rename_i xw;exact Calls.gX (aaO _ _ _))))
      refine wpQuiet_nil ?_
      intro w2 hb2
      have HS2:=Lib.hid (hS.out.step hb2)
      go_wp2_with fail
      go_roundw
      case rel=>exact⟨i+1,Y,by omega,by omega,by go_num,HS2.out,HZ.out⟩
      case measure=>simp[intOf];omega
  ·have hki:¬(i:Int)<(X.length:Int):=by omega
   go_wp2_with fail
   go_end0
   exact⟨rfl,Y,hS.out,by have:=hso.out;rwa[List.take_of_length_le (by rw[HL.out];omega)]at this⟩
theorem apQ(g cap:Nat)(X:List ah)(lm:Int)(w:World)(hn:X.length≤12)(hX:jY g X X w w)(hD:(X.map lI).Nodup) :
  Calls Tryz.prog 187 #[.slice (some ⟨g,0,none⟩) X.length cap,.int .i64 0,.int .i64 X.length,.int .i64 lm,.func (.func 72) #[] #[]] w fun e w'=>e=.returned (.tuple #[])∧∃Y,jY g X Y w w'∧Sorted bQ lI Y:=by
 have HI:=Lib.hid (apP g cap X w hn hX hD)
 clear hX hD
 have h12:(X.length:Int)≤12:=by omega
 go_enter Tryz.func187,Tryz.ntmps187
 go_wp2_with fail
 refine wp_loop_rounds 1 ?_
 rw[rounds_succ]
 go_wp2_with fail
 refine HI.out.mono ?_
 rintro e w' ⟨rfl,hY⟩
 dsimp only
 go_wp2_with fail
 refine bodyPost_ret (results_none rfl _ _ _) rfl ⟨rfl,hY⟩
theorem apR(g cap:Nat)(X:List ah)(w:World)(hn:X.length≤12)(hX:jY g X X w w)(hD:(X.map lI).Nodup) :
  Calls Tryz.prog 122 #[.slice (some ⟨g,0,none⟩) X.length cap,.func (.func 72) #[] #[]] w fun e w'=>e=.returned (.tuple #[])∧∃Y,jY g X Y w w'∧Sorted bQ lI Y:=by
 have HI:=Lib.hid (fun lm=>apQ g cap X lm w hn hX hD)
 clear hX hD
 go_enter Tryz.func122,Tryz.ntmps122
 go_wp2_with fail
 refine(EN _ hn w).mono ?_
 rintro e w' ⟨⟨k,rfl⟩,rfl⟩
 dsimp only
 go_wp2_with fail
 refine(HI.out k).mono ?_
 rintro e w' ⟨rfl,hY⟩
 dsimp only
 go_wp2_with fail
 go_end0
 exact⟨rfl,hY⟩
theorem apS(w:World):Calls Tryz.prog 267 #[.slice none 0 0,.int .i64 0,.int .i64 0,.func (.func 72) #[] #[]] w fun e w'=>e=.returned (.tuple #[])∧w=w':=by
 go_enter Tryz.func267,Tryz.ntmps267
 go_wp2_with fail
 refine wp_loop_rounds 1 ?_
 rw[rounds_succ]
 go_wp2_with fail
 go_end0
 exact⟨rfl,rfl⟩
theorem apT(lm:Int)(w:World):Calls Tryz.prog 187 #[.slice none 0 0,.int .i64 0,.int .i64 0,.int .i64 lm,.func (.func 72) #[] #[]] w fun e w'=>e=.returned (.tuple #[])∧w=w':=by
 go_enter Tryz.func187,Tryz.ntmps187
 go_wp2_with fail
 refine wp_loop_rounds 1 ?_
 rw[rounds_succ]
 go_wp2_with fail
 refine(apS w).mono ?_
 rintro e w' ⟨rfl,rfl⟩
 dsimp only
 go_wp2_with fail
 refine bodyPost_ret (results_none rfl _ _ _) rfl ⟨rfl,rfl⟩
theorem apU(w:World):Calls Tryz.prog 122 #[.slice none 0 0,.func (.func 72) #[] #[]] w fun e w'=>e=.returned (.tuple #[])∧w=w':=by
 go_enter Tryz.func122,Tryz.ntmps122
 go_wp2_with fail
 refine(EN 0 (by omega) w).mono ?_
 rintro e w' ⟨⟨k,rfl⟩,rfl⟩
 dsimp only
 go_wp2_with fail
 refine(apT k w).mono ?_
 rintro e w' ⟨rfl,rfl⟩
 dsimp only
 go_wp2_with fail
 go_end0
 exact⟨rfl,rfl⟩
end Go.Proofs.YtaghcadlgbnbdaaGreatDoor
namespace Go.WW
open Go.RowKit
abbrev Gx(E:List ah):List (ByteArray×Value):=E.map fun x=>(x.name,Value.agg (az x))
end Go.WW
namespace Go.Proofs.YtaghcadlgbnbdaaGreatDoor
open Go.RowKit Go.WW
def aaP(E:List ah)(w:World)(z:Ending)(w':World):Prop:=∃(s:Sl) (Y:List ah),z=.returned (.slice s.a Y.length s.cap)∧Below w.heap.size w w'∧Y.Perm E∧Sorted bQ lI Y∧aZ w' (fresh w.heap.size w') (fun x=>kS x s.a Y)∧(0<Y.length→Y.length≤s.cap∧∃g,s.a=some ⟨g,0,none⟩∧w.heap.size≤g∧Gw w' g 35)
theorem apV(e:Nat)(E:List ah)(w:World)(hm:MapOf w e (Gx E))(hn:E.length≤12)(hD:(E.map lI).Nodup) :
  Calls Tryz.prog 71 #[.map (some e),.func (.func 72) #[] #[]] w (aaP E w):=by
 obtain⟨w1,hrange,hit,hb1,hs1⟩:=Ho (P:=Tryz.prog) Tryz.underlying87 hm
 have HD:=Lib.hid hD
 have hel:=hm.lt
 have hd0:(Gx E).length=E.length:=by simp
 clear hD
 go_enter Tryz.func71,Tryz.ntmps71
 go_wp2_with fail
 clear hrange
 go_loopw [5] (fun lv wr=>∃(so:Sl) (T left:List ah),lv=.slice so.a T.length so.cap∧Hid (kz wr w.heap.size e (Gx E) (Gx left))∧Hid ((T++left).Perm E)∧Go.WW.Own wr w1.heap.size 35 10 so (T.map az)∧Below w.heap.size w wr∧w1.heap.size≤wr.heap.size∧(T=[]→so=⟨none,0⟩)) (fun lv _=>13-(match lv with | .slice _ k _=>k|_=>0))
 case atStart=>exact⟨⟨none,0⟩,[],E,rfl,hit,List.Perm.refl _,Go.WW.Own.nil _ _ _ _,hb1,Nat.le_refl _,fun _=>rfl⟩
 case round=>
  obtain⟨so,T,left,rfl,hI,hp,hO,hbr,o6,hnil⟩:=hrel
  have hlen:T.length+left.length=E.length:=by have:=hp.out.length_eq;simpa using this
  rcases Hq (P:=Tryz.prog) 0 hI.out with⟨hl0,hrun⟩|⟨l1,x,l2,w2,hl,hrun,hent,hI2,hb2,hs2⟩
  ·obtain rfl:left=[]:=by cases left<;>simp_all
   have xO:T.Perm E:=by simpa using hp.out
   rcases Nat.eq_zero_or_pos T.length with hT0|hT0
   ·obtain rfl:T=[]:=List.eq_nil_of_length_eq_zero hT0
    obtain rfl:=hnil rfl
    go_wp2_with fail
    refine(apU wr).mono ?_
    rintro z w' ⟨rfl,rfl⟩
    dsimp only
    go_wp2_with fail
    go_ret
    exact⟨⟨none,0⟩,[],rfl,hbr,xO,List.Pairwise.nil,fun x _=>⟨by simp[lim],fun i hi=>by simp at hi⟩,fun h=>absurd h (Nat.lt_irrefl _)⟩
   ·obtain⟨g,hga,hgb,hg0⟩:=hO.row 0 (by simpa using hT0)
    have hge:=hO.base hgb
    obtain⟨sa,sc⟩:=so
    obtain rfl:sa=some ⟨g,0,none⟩:=hga
    have EO:jY g T T wr wr:=⟨List.Perm.refl _,But.refl _ _,kS.dX hO (by have:=Ya;omega),by simpa using hO.apN rfl,by
     rcases hO.own.2 with⟨hv,_⟩|⟨g',cap,cur,hv,_,hh,_⟩
     ·cases hv
     ·cases hv;exact⟨cur,hh⟩⟩
    have hcap:T.length≤sc:=by
     rcases hO.own.2 with⟨hv,_⟩|⟨g',cap,cur,hv,_,hh,hle,_⟩
     ·cases hv
     ·cases hv;simpa using hle
    have HS:=Lib.hid (apR g sc T wr (by omega) EO ((xO.map lI).nodup_iff.2 HD.out) )
    clear EO
    go_wp2_with fail
    refine HS.out.mono ?_
    rintro z w' ⟨rfl,Y,hY,hso⟩
    dsimp only
    go_wp2_with fail
    have hbw:=zy hbr hY.but (fun j (hj:j=g)=>by omega)
    have Ji:=hY.perm.length_eq
    have hg':g<w'.heap.size:=by have:=hY.but.size;omega
    go_ret
    exact⟨⟨some ⟨g,0,none⟩,sc⟩,Y,by rw[Ji];rfl,hbw,hY.perm.trans xO,hso,fun x hx=>hY.rows.block (hx g ⟨by omega,hg'⟩),fun _=>⟨by rw[Ji];exact hcap,g,rfl,by omega,hY.typ⟩⟩
  ·obtain⟨L1,L',hL,e1,e2⟩:=List.map_eq_append_iff.1 hl
   obtain⟨y,L2,rfl,e3,e4⟩:=List.map_eq_cons_iff.1 e2
   subst e3 e1 e4 hL
   have hbw2:Below w.heap.size w w2:=zy hbr hb2 (fun j (hj:j=w.heap.size)=>by omega)
   have hown:Go.WW.Own ((w2.alloc (.cells (az y) 35)).alloc (.cells (az y) 35)) w1.heap.size 35 10 so (T.map az):=hO.kept fun g hg=>by
    have hgb:=hO.base hg
    rw[Below.heap_alloc _ _ _ (by simp;omega),Below.heap_alloc _ _ _ (by omega)]
    exact hb2.block g hgb.2 (show ¬g=w.heap.size by omega)
   have hrun':(Instr.next (.pointer (some ⟨w.heap.size,0,none⟩)) false 0).run Tryz.prog wr=.ok (.tuple #[.bool true,.string (y.name),.agg (az y)]) w2:=hrun
   have EP:(Instr.entry (.pointer (some ⟨w.heap.size,0,none⟩))).run Tryz.prog w2=.ok (.tuple #[.string (y.name),.agg (az y)]) w2:=hent
   have hsrc:bJ ((w2.alloc (.cells (az y) 35)).alloc (.cells (az y) 35)) 10 (some ⟨w2.heap.size+1,0,none⟩) [az y]:=by
    have:=bJ.new (w2.alloc (.cells (az y) 35)) (az y) 35 10 (by simp[go_sem]) (by simp[go_sem])
    rwa[World.size_alloc]at this
   have HS2:=Lib.hid hs2
   clear hrun hent hs2
   go_wp2_with (at_builtin;refine gK rfl (.tmp 14) (.tmp 16) _ rfl apO (n:=T.length) (rows:=T.map az) (news:=[az y]) rfl (by simp) hown rfl rfl hsrc (by rw[List.length_map];simp;omega) (by have:=HS2.out;simp;omega) ?_;intro s3 w3 hown3 hg3 fQ)
   have hs2:=HS2.out
   have oZ:Below w.heap.size w ((w2.alloc (.cells (az y) 35)).alloc (.cells (az y) 35)):=aC (aC hbw2 _) _
   have hb3:Below w.heap.size w w3:=oZ.grown hg3 oZ.size (fun g hg=>by have:=(hown.base hg).1;omega)
   have hs3:=hg3.size
   have hkp:∀k,k<w1.heap.size→w3.heap[k]?=w2.heap[k]?:=fun k hk=>by
    rw[hg3.block k (by simp;omega) (fun e=>by have:=(hown.base e.symm).1;omega),Below.heap_alloc _ _ _ (by simp;omega),Below.heap_alloc _ _ _ (by omega)]
   have HI3:=Lib.hid (hI2.at (hkp w.heap.size (by omega)) (hkp e (by omega)))
   have ER:=Lib.hid (show((T++[y])++(L1++L2)).Perm E from List.Perm.trans (by simpa using List.perm_middle.symm.append_left T) hp.out)
   have OJ:Go.WW.Own w3 w1.heap.size 35 10 s3 ((T++[y]).map az):=by rw[List.map_append];exact hown3
   have hsz3:w1.heap.size≤w3.heap.size:=by simp at hs3;omega
   have hTl:T.length+1≤12:=by simp at hlen;omega
   clear hown hown3 hg3 fQ hI2 hb2 hbw2 hkp oZ hs3 HS2 hs2
   go_wp2_with fail
   go_roundw
   case rel=>exact⟨s3,T++[y],L1++L2,by simp,by simpa[Hid]using HI3.out,ER.out,OJ,hb3,hsz3,by simp⟩
   case measure=>simp;omega
theorem apW(b o p:Nat)(E:List ah)(w:World)(hc:w.cell? ⟨b,o+4,none⟩=some (.map (some p)))(hm:MapOf w p (Gx E))(hn:E.length≤12)(hD:(E.map lI).Nodup) :
  Calls Tryz.prog 32 #[.pointer (some ⟨b,o,none⟩)] w (aaP E w):=by
 have HI:=Lib.hid (apV p E w hm hn hD)
 have hlt:=World.block_lt_of_cell? w _ hc
 clear hD hm
 go_enter Tryz.func32,Tryz.ntmps32
 go_wp2_with fail
 refine HI.out.mono ?_
 rintro z w' ⟨sl,Y,rfl,hY⟩
 dsimp only
 go_wp2_with fail
 go_ret
 exact⟨sl,Y,rfl,hY⟩
end Go.Proofs.YtaghcadlgbnbdaaGreatDoor
namespace Go.WW
open Go.RowKit
def RH(_:Nat→Prop)(_:World)(_:Nat)(x:ah×Nat)(v:Array Value)(_ _:World):Prop:=v=#[.int .i64 x.2,.agg (az x.1)]∧x.1.name.size≤lim
end Go.WW
namespace Go.Proofs.YtaghcadlgbnbdaaGreatDoor
open Go.RowKit Go.WW
theorem apX(a:Option Addr)(n cap:Nat)(w:World):Calls Tryz.prog 33 #[.slice a n cap] w fun e w'=>e=.returned (.func (.func 74) #[] #[.pointer (some ⟨w.heap.size,0,none⟩)])∧w'=w.alloc (.cells #[.slice a n cap] 42):=by
 go_enter Tryz.func33,Tryz.ntmps33
 go_wp2
 go_ret
 exact⟨rfl,rfl⟩
attribute [local go_sem] Oper.semAt_some
theorem aaQ(b cap:Nat)(a:Option Addr)(Y:List ah)(S:Nat→Prop)(w:World)(hc:w.cell? ⟨b,0,none⟩=some (.slice a Y.length cap))(hL:∀y,But (Off S w) w y→fG y a Y) :
  AQ Tryz.prog 74 #[.pointer (some ⟨b,0,none⟩)] S Y.zipIdx (RH S w) w:=by
 intro l J Jx W hW hl1 hl2 h0 hJ hJx hY
 have hn:Y.length≤4294967000:=(hL w (But.refl _ _)).1
 have hcW:W.cell? ⟨b,0,none⟩=some (.slice a Y.length cap):=(hW.cell (World.block_lt_of_cell? w _ hc)).trans hc
 have D7:But (Off S w) w W:=But.of_below hW
 have HJ:=Lib.hid hJ
 have xn:=Lib.hid hJx
 have HY:=Lib.hid hY
 have HL:=Lib.hid hL
 have H0:=Lib.hid (h0 W.heap.size W (Nat.le_refl _) (Nat.le_refl _) (Below.refl _ _))
 clear hJ hJx hY hL h0
 refine(callsIn_wide (n:=0)).1 ?_
 refine callsIn_of_wp Tryz.func74 rfl trivial ?_ rfl
 simp only[Tryz.ntmps74,List.size_toArray,List.length_cons,List.length_nil,Nat.reduceAdd,Nat.reduceSub,Array.replicate_succ,Array.replicate_zero,List.push_toArray,List.append_toArray,List.nil_append,List.cons_append]
 rcases Nat.eq_zero_or_pos Y.length with hX|hX
 ·obtain rfl:Y=[]:=List.eq_nil_of_length_eq_zero hX
  gi_wp2
  refine wpIn_loop_rounds 1 ?_
  rw[roundsIn_succ]
  gi_wp2
  go_end0
  exact⟨⟨_,rfl⟩,.inl ⟨_,H0.out⟩⟩
 obtain⟨B,o,-,rfl,-⟩:=(HL.out w (But.refl _ _)).2 0 hX
 gi_wp2
 gi_loopw [7] (fun iv wr=>∃i:Nat,i≤Y.length∧iv=.int .i64 i∧Hid (J W.heap.size i wr)∧Hid (But (Off S w) w wr)∧W.heap.size≤wr.heap.size) (fun iv _=>Y.length-(intOf iv).toNat)
 case atStart=>exact⟨0,Nat.zero_le _,rfl,H0,D7,Nat.le_refl _⟩
 case round=>
  obtain⟨i,hi,rfl,hj,hbu,hsz⟩:=hrel
  by_cases hlt:i<Y.length
  ·have hki:(i:Int)<(Y.length:Int):=by omega
   obtain⟨hr,hps⟩:=fG.at (HL.out wr hbu.out) i hlt
   have HP:=Lib.hid hps
   clear hps
   have hx:(Y.zipIdx)[i]?=some (Y[i],i):=by rw[List.getElem?_zipIdx];simp[hlt]
   generalize Y[i]=x at *
   have hr':row? wr B (o+i*10) 10=some (az x):=hr
   clear hr
   have hal:But (Off S w) w (wr.alloc (.cells (az x) 35)):=hbu.out.trans (But.of_below ((Below.refl _ wr).alloc (Nat.le_refl _) _))
   obtain⟨fn,tmps,assign,body,hy,hR⟩:=HY.out W.heap.size i (x,i) #[.int .i64 i,.agg (az x)] wr (wr.alloc (.cells (az x) 35)) hx hj.out (But.of_below ((Below.refl _ wr).alloc (Nat.le_refl _) _)) ⟨rfl,HP.out⟩ (Nat.le_refl _) hsz
   gi_wp2
   refine⟨rfl,hR.mono ?_⟩
   rintro e W3 ⟨hb3,h3⟩
   have HB3:=Lib.hid (show But (Off S w) w W3 from hal.trans (hb3.mono fun k hk=>by
    rcases hk with(hk|rfl)|hk
    ·exact .inl hk
    ·exact .inr hl1
    ·exact .inr (Nat.le_trans hW.size hk)))
   have vk:W.heap.size≤W3.heap.size:=by have:=hb3.size;simp at this;omega
   clear hal hy hR hb3
   rcases h3 with⟨rfl,hj3⟩|⟨rfl,hx3⟩
   ·have qR:=Lib.hid hj3
    clear hj3
    gi_wp2
    go_roundw
    case rel=>exact⟨i+1,by omega,by go_num,qR.out,HB3.out,vk⟩
    case measure=>simp[intOf];omega
   ·have qR:=Lib.hid hx3
    clear hx3
    gi_wp2
    refine bodyPost_ret (results_none rfl _ _ _) rfl ?_
    exact⟨⟨_,rfl⟩,.inr ⟨_,_,qR.out⟩⟩
  ·obtain rfl:i=Y.length:=by omega
   gi_wp2
   go_end0
   exact⟨⟨_,rfl⟩,.inl ⟨_,by simpa using hj.out⟩⟩
theorem apY(b n e p:Nat)(re:ByteArray)(s:Int)(N:List (ByteArray×Value))(E:List EE)(P:List ah)(w:World)(h:bT w b n e p re s N E P)(hre:¬re=⟨#[]⟩)(hn:P.length≤12)(hD:(P.map lI).Nodup) :
  Calls Tryz.prog 8 #[.pointer (some ⟨b,0,none⟩)] w fun z w'=>∃(bx:Nat) (sl:Sl) (Y:List ah),z=.returned (.func (.func 74) #[] #[.pointer (some ⟨bx,0,none⟩)])∧w.heap.size≤bx∧Below w.heap.size w w'∧w'.heap[bx]?=some (.cells #[.slice sl.a Y.length sl.cap] 42)∧Y.Perm P∧Sorted bQ lI Y∧aZ w' (fresh w.heap.size w') (fun x=>kS x sl.a Y):=by
 obtain⟨c0,c1,c2,c3,c4,f1,hl⟩:=fH h.box
 have HE:=Lib.hid (apW b 0 p P w (by simpa using c4) h.pm hn hD)
 clear hD
 go_enter Tryz.func8,Tryz.ntmps8
 go_wp2_with fail
 refine(lq _ _ _ c0 hre).mono ?_
 rintro x w' ⟨rfl,rfl⟩
 dsimp only
 go_wp2_with fail
 refine HE.out.mono ?_
 rintro z w2 ⟨sl,Y,rfl,hb2,hp,hso,hd,-⟩
 dsimp only
 go_wp2_with fail
 refine(apX _ _ _ _).mono ?_
 rintro z w3 ⟨rfl,rfl⟩
 dsimp only
 go_wp2_with fail
 go_ret
 refine⟨w2.heap.size,sl,Y,rfl,hb2.size,aC hb2 _,World.alloc_heap_new _ _,hp,hso,fun x hx=>hd x fun k hk=>?_⟩
 rw[hx k ⟨hk.1,by have:=hk.2;simp;omega⟩]
 exact Below.heap_alloc _ _ _ hk.2
end Go.Proofs.YtaghcadlgbnbdaaGreatDoor
namespace Go.WW
open Go.RowKit
theorem kY.le{m m':Nat}{w:World}{r:aI}{d:Entry}(h:kY m w r d)(hm:m'≤m):kY m' w r d:=⟨h.at_,h.name.le hm,h.aliases.le hm,h.keys.le hm⟩
def RJ(_:Nat)(x:EE×Nat)(v:Array Value)(W0 W1:World):Prop:=∃r,v=#[.int .i64 x.2,.agg (ae r x.1.2)]∧aZ W1 (fresh W0.heap.size W1) (fun y=>kY W0.heap.size y r x.1.2)
end Go.WW
namespace Go.Proofs.YtaghcadlgbnbdaaGreatDoor
open Go.RowKit Go.WW
attribute [local go_sem] Oper.semAt_some
theorem aaR(b:Nat)(s:Sl)(X:List EE)(S:Nat→Prop)(w:World)(hc:w.heap[b]?=some (.cells #[.slice s.a X.length s.cap] 41))(hS:∀k,S k→k<w.heap.size)(hL:∀y,But (Off S w) w y→uF y s.a X) :
  AQ Tryz.prog 29 #[.pointer (some ⟨b,0,none⟩)] S X.zipIdx RJ w:=by
 intro l J Jx W hW hl1 hl2 h0 hJ hJx hY
 have hWc:W.cell? ⟨b,0,none⟩=some (.slice s.a X.length s.cap):=(ai (aA hW hc)).1 0
 have hbl:b<W.heap.size:=World.block_lt_of_cell? W _ hWc
 have HJ:=Lib.hid hJ
 have xn:=Lib.hid hJx
 have HY:=Lib.hid hY
 have HL:=Lib.hid hL
 have H0:=Lib.hid h0
 clear hJ hJx hY hL h0
 obtain⟨W1,hW1⟩:∃W1,W1=W.alloc (.cells #[.func (.yield l) #[] #[]] 92):=⟨_,rfl⟩
 obtain⟨W2,hW2⟩:∃W2,W2=W1.alloc (.cells #[.slice s.a X.length s.cap] 41):=⟨_,rfl⟩
 have hs1:W1.heap.size=W.heap.size+1:=by rw[hW1];simp
 have hb1:Below W.heap.size W W1:=by rw[hW1];exact(Below.refl _ _).alloc (Nat.le_refl _) _
 have hb2:Below W.heap.size W W2:=by rw[hW2];exact hb1.alloc hb1.size _
 have hs2:W2.heap.size=W.heap.size+2:=by rw[hW2];simp[hs1]
 have hy1:W2.heap[W.heap.size]?=some (.cells #[.func (.yield l) #[] #[]] 92):=by
  rw[hW2,Below.heap_alloc _ _ _ (by omega),hW1];exact World.alloc_heap_new _ _
 have hy2:W2.cell? ⟨W.heap.size+1,0,none⟩=some (.slice s.a X.length s.cap):=by
  have:=World.alloc_heap_new W1 (.cells #[.slice s.a X.length s.cap] 41)
  rw[←hW2,hs1]at this
  exact(ai this).1 0
 refine(callsIn_wide (n:=0)).1 ?_
 refine callsIn_of_wp_marks Tryz.func29 rfl trivial ?_ rfl
 simp only[Tryz.ntmps29,List.size_toArray,List.length_cons,List.length_nil,Nat.reduceAdd,Nat.reduceSub,Array.replicate_succ,Array.replicate_zero,List.push_toArray,List.append_toArray,List.nil_append,List.cons_append]
 gi_wp2
 refine WM ?_
 gi_wp2
 refine wpIn_label ?_
 gi_wp2
 refine⟨trivial,rfl,(callsIn_wide.2 (ajq _ _ _ _)).mono ?_⟩
 rintro e w' ⟨rfl,rfl⟩
 rw[←hW1,hs1,←hW2]
 clear hW1 hW2
 gi_wp2
 have hwW:=hW.size
 refine(wpIn_wide (n:=0)).2 ?_
 refine vg (gf:=65) (lb:=#[.pointer (some ⟨W.heap.size+1,0,none⟩)]) (by simp[go_sem]) (enters_of Tryz.func65 (by kernel_rfl) rfl) (S:=fun k=>S k∨k=l) ?_ (xs:=X.zipIdx) (V:=Yc (fun k=>S k∨k=l) W2) ?_ (ajr _ s.cap s.a X _ W2 hy2 ?_)
  (fun c1 k Wc=>J c1 k Wc∧Wc.heap[W.heap.size]?=some (.cells #[.func (.yield l) #[] #[]] 92)∧But (Off (fun k=>S k∨k=l) W2) W2 Wc∧W2.heap.size<c1) (fun c c1 k Wc=>c=.exit 0∧Jx c1 k Wc∧W2.heap.size<c1) ?_ ?_ ?_ ?_ ?_ ?_
 ·rintro k (hk|rfl)
  ·have:=hS k hk;omega
  ·omega
 ·rintro c1 x v W0 Wc ⟨rfl,_⟩;rfl
 ·intro y hy
  refine HL.out y ((But.of_below (ag hW hb2)).trans (hy.mono fun k hk=>?_))
  rcases hk with(hk|rfl)|hk
  ·exact .inl hk
  ·exact .inr hl1
  ·exact .inr (by omega)
 ·intro c1 Wc h1 h2 hb
  exact⟨H0.out c1 Wc (by omega) h2 (ag hb2 hb),aA hb hy1,But.of_below hb,h1⟩
 ·rintro c1 k Wc lh ⟨h1,h2,h3,h4⟩ hb
  exact⟨HJ.out _ _ _ _ h1 (hb.mono fun k hk=>⟨by have:=hk.1;omega,hk.2⟩),(hb.block _ (Array.getElem?_eq_some_iff.1 h2).1 (fun h=>by have:=h.1;omega)).trans h2,h3.trans (hb.mono fun k hk=>.inr (by have:=hk.1;omega)),h4⟩
 ·rintro c c1 k Wc lh ⟨rfl,h1,h2⟩ hb
  exact⟨rfl,xn.out _ _ _ _ h1 (hb.mono fun k hk=>⟨by have:=hk.1;omega,hk.2⟩),h2⟩
 ·rintro c1 k x v W0 Wc hx ⟨rfl,hp⟩ ⟨hj,yX,iD,hc0⟩ hbs hc1 mZ
  have hsW:=hbs.size
  have hc2:c1≤Wc.heap.size:=Nat.le_trans mZ hsW
  have yY:=(hbs.block _ (Array.getElem?_eq_some_iff.1 yX).1 (fun h=>by have:=h.1;omega)).trans yX
  have hbu:=iD.trans (hbs.mono fun k hk=>(.inr (by have:=hk.1;omega):Off (fun k=>S k∨k=l) W2 k))
  have NU:But (span W.heap.size c1) W0 Wc:=hbs.mono fun k hk=>⟨by have:=hk.1;omega,hk.2⟩
  obtain⟨⟨s0,p⟩,ix⟩:=x
  have HP:=Lib.hid hp
  have NV:=Lib.hid hj
  clear hp hj
  simp only[bC]
  gi_wp2
  have hcl:W.heap.size<Wc.heap.size:=(Array.getElem?_eq_some_iff.1 yY).1
  have hal:Below Wc.heap.size Wc (Wc.alloc (.cells (ae s0 p) 32)):=(Below.refl _ _).alloc (Nat.le_refl _) _
  refine⟨hal,fun U hU=>?_⟩
  have lU:U.heap[Wc.heap.size]?=some (.cells (ae s0 p) 32):=(hU.block _ (by simp) (aT (by omega))).trans (World.alloc_heap_new _ _)
  have yZ:U.heap[W.heap.size]?=some (.cells #[.func (.yield l) #[] #[]] 92):=(hU.block _ (by simp;omega) (aT (by omega))).trans (aA hal yY)
  have dU:But (Off (fun k=>S k∨k=l) W2) W2 U:=(hbu.trans (But.of_below hal)).trans (hU.mono fun k hk=>.inr (by have:k=_:=hk;omega))
  have qh:=HP.out U dU
  have NW:But (span W.heap.size c1) W0 U:=NU.trans ((But.of_below hal).trans (hU.mono fun k hk=>(⟨by have:k=_:=hk;omega,by have:k=_:=hk;omega⟩:span W.heap.size c1 k)))
  have qi:Wc.heap.size<U.heap.size:=(Array.getElem?_eq_some_iff.1 lU).1
  have NY:¬((S W.heap.size∨W.heap.size=l)∨c1≤W.heap.size):=by
   rintro((h|h)|h)
   ·have:=hS _ h;omega
   ·omega
   ·omega
  have hcy:U.cell? ⟨W.heap.size,0,none⟩=some (.func (.yield l) #[] #[]):=(ai yZ).1 0
  have NZ:W.heap.size<U.heap.size:=by omega
  have jB:row? U Wc.heap.size 0 17=some (ae s0 p):=by rw[bV lU];exact dH (by simp[go_sem])
  clear hal hU hbu HP yY yX iD hbs
  gi_wp2
  refine TI.WO 32 (fun k=>(S k∨k=l)∨c1≤k) (But.refl _ U) (by kernel_rfl) (by kernel_rfl) (by kernel_rfl) ?_
  repeat (first|(refine TI.aP (by rfl) ?_)|(refine TI.Bi (by rfl) (by rfl) (fun K hK=>?_);go_big_quiet_op;refine hK _ ?_;clear hK K))
  refine TI.II (by rfl) (by rfl) (by rfl) (fun K hK=>?_)
  go_wp2_with fail
  refine hK _ _ (bI (But.refl _ U).drew) ?_
  clear hK K
  refine TI.II (by rfl) (by rfl) (by rfl) (fun K hK=>?_)
  go_wp2_with fail
  refine(Vr _ _ U.drew (qh.later (Below.refl _ _).drew)).mono ?_
  rintro e U2 ⟨s2,rfl,hb2',hd2⟩
  dsimp only
  have hbb:Below U.heap.size U U2:=(Below.refl _ U).drew.trans hb2'
  refine hK _ _ (bI (But.of_below hbb)) ?_
  clear hK K
  have hbs:=hbb.size
  obtain⟨fn,tmps,assign,body,hy,hR⟩:=HY.out c1 k ((s0,p),ix) #[.int .i64 ix,.agg (ae s2 p)] W0 U2 hx NV.out (NW.trans (But.of_below hbb)) ⟨s2,rfl,(show aZ U2 (fresh U.drew.heap.size U2) (fun x=>kY W0.heap.size x s2 p) from fun x hx'=>(hd2 x hx').le (show W0.heap.size≤U.drew.heap.size by have h2:U.drew.heap.size=U.heap.size:=rfl;omega)).to (fun _ _=>rfl) (fun j hj=>⟨by have h1:U.drew.heap.size≤j:=hj.1;have h2:U.drew.heap.size=U.heap.size:=rfl;omega,hj.2⟩)⟩ (by omega) mZ
  refine TI.WN (by rfl) (by rfl) (fun K hK=>?_)
  gi_wp2
  refine⟨rfl,RoundIn.mono (F:=Fence.wide.inRound (W.heap.size+2+1)) hR ?_⟩
  rintro e W3 ⟨hb3,h3⟩
  have fF:But (fun k=>(S k∨k=l)∨c1≤k) U W3:=(But.of_below hbb).trans hb3
  have hy3:W3.heap[W.heap.size]?=some (.cells #[.func (.yield l) #[] #[]] 92):=(fF.block _ NZ NY).trans yZ
  have uq:But (Off (fun k=>S k∨k=l) W2) W2 W3:=dU.trans (fF.mono fun k hk=>hk.imp id (fun h=>by omega))
  clear hy hR hd2 hcy jB lU yZ dU qh
  rcases h3 with⟨rfl,hj3⟩|⟨rfl,hx3⟩
  ·dsimp only
   refine hK _ _ (bI fF) ?_
   clear hK K
   repeat (first|(refine TI.aP (by rfl) ?_)|(refine TI.Bi (by rfl) (by rfl) (fun K hK=>?_);go_big_quiet_op;refine hK _ ?_;clear hK K))
   refine TI.bW ?_
   gi_wp2
   exact⟨fF,hj3,hy3,uq,by omega⟩
  ·dsimp only
   refine hK _ _ (bI fF) ?_
   clear hK K
   repeat (first|(refine TI.aP (by rfl) ?_)|(refine TI.Bi (by rfl) (by rfl) (fun K hK=>?_);go_big_quiet_op;refine hK _ ?_;clear hK K))
   refine TI.bW ?_
   gi_wp2
   exact⟨fF,rfl,hx3,by omega⟩
 ·intro c1 Wc ⟨hj,_,_,hc0⟩ hD
  gi_wp2
  refine⟨by simp,.inl ⟨_,_,rfl,run_takeDeferred hD,?_⟩⟩
  refine⟨.tuple #[],by simp[results,Tryz.f29,go_sem],⟨_,rfl⟩,.inl ⟨c1,HJ.out _ _ _ _ hj ((But.putObj _).mono fun k hk=>?_)⟩⟩
  have:k=_:=hk
  exact⟨by omega,by omega⟩
 ·rintro c c1 k Wc ⟨rfl,hx,hc0⟩ hD
  refine(wpIn_wide (n:=0)).1 ?_
  gi_wp2
  refine⟨by simp,.inl ⟨_,_,rfl,run_takeDeferred hD,?_⟩⟩
  refine⟨.tuple #[],by simp[results,Tryz.f29,go_sem],⟨_,rfl⟩,.inr ⟨c1,k,xn.out _ _ _ _ hx ((But.putObj _).mono fun k hk=>?_)⟩⟩
  have:k=_:=hk
  exact⟨by omega,by omega⟩
end Go.Proofs.YtaghcadlgbnbdaaGreatDoor
namespace Go.WW
open Go.RowKit
section
variable {w w':World} (h:∀k,k<w.heap.size→w'.heap[k]?=w.heap[k]?)
include h
theorem aO.same{k:Nat}{a:Option Addr}{n:Nat}{R R':Nat→Array Value→Prop}(hR:∀i cs,R i cs→R' i cs)(x:aO w k a n R):aO w' k a n R':=by
 refine⟨x.1,fun i hi=>?_⟩
 obtain⟨b,o,cs,ha,hr,hR1⟩:=x.2 i hi
 exact⟨b,o,cs,ha,by rw[fO (h b (gq hr))];exact hr,hR i cs hR1⟩
theorem dJ.same{a:Option Addr}{n:Nat}{R R':Nat→Value→Prop}(hR:∀i cs,R i cs→R' i cs)(x:dJ w a n R):dJ w' a n R':=by
 refine⟨x.1,fun i hi=>?_⟩
 obtain⟨b,o,cs,ha,hr,hR1⟩:=x.2 i hi
 exact⟨b,o,cs,ha,(World.cell?_of_block (a:=⟨b,o+i,Option.none⟩) (h b (World.block_lt_of_cell? w _ hr))).trans hr,hR i cs hR1⟩
theorem iU.same{a:Option Addr}{l:List ByteArray}(x:iU w a l):iU w' a l:=dJ.same h (fun _ _ y=>y) x
theorem BytesAt.same{a:Option Addr}{l:List UInt8}(x:BytesAt w a l):BytesAt w' a l:=dJ.same h (fun _ _ y=>y) x
theorem bg.same{s:Sl}{p:aB}(x:bg w s p):bg w' s p:=⟨x.1.same h,x.2⟩
theorem eG.same{a:Option Addr}{l:List aB}(x:eG w a l):eG w' a l:=aO.same h (fun _ _ ⟨p,s,y1,y2,y3⟩=>⟨p,s,y1,y2,y3.same h⟩) x
theorem kV.same{s:Sl}{k:Key}(x:kV w s k):kV w' s k:=BytesAt.same h x
theorem jR.same{a:Option Addr}{l:List Key}(x:jR w a l):jR w' a l:=aO.same h (fun _ _ ⟨p,s,y1,y2,y3⟩=>⟨p,s,y1,y2,y3.same h⟩) x
theorem jG.same{s:Sl}{k:aW}(x:jG w s k):jG w' s k:=⟨x.1.same h,x.2⟩
theorem jZ.same{a:Option Addr}{l:List aW}(x:jZ w a l):jZ w' a l:=aO.same h (fun _ _ ⟨p,s,y1,y2,y3⟩=>⟨p,s,y1,y2,y3.same h⟩) x
theorem lL.same{a:Option Addr}{l:List (List UInt8)}(x:lL w a l):lL w' a l:=dJ.same h (fun _ _ ⟨p,s,y1,y2,y3⟩=>⟨p,s,y1,y2,y3.same h⟩) x
theorem bz.same{r:aI}{d:Entry}(x:bz w r d):bz w' r d:=
 ⟨x.name.same h,x.aliases.same h,x.keys.same h,x.targets.same h,x.bH.same h,x.history.same h,x.aK,x.attrs⟩
end
theorem bz.upd{w:World}{r:aI}{d:Entry}{f l s:Int}(x:bz w r d):bz w r {d with fails:=f,iw:=l,jw:=s}:=⟨x.name,x.aliases,x.keys,x.targets,x.bH,x.history,x.aK,x.attrs⟩
end Go.WW
namespace Go.WW
theorem aaS(p:aB):bn p p=true:=by simp[bn]
theorem kT(a:Int):(a == a)=true∧(a != a)=false:=by simp
theorem KZ(a:ByteArray):(a.toList == a.toList)=true:=by simp
end Go.WW
namespace Go.Proofs.YtaghcadlgbnbdaaGreatDoor
open Go.RowKit Go.WW
theorem La(w:World)(a:Option Addr)(l:List UInt8)(cap:Nat)(h:BytesAt w a l):(convert 62 9 (.slice a l.length cap)).run Tryz.prog w=.ok (.string ⟨l.toArray⟩) w:=by
 cases a with
 |none=>
  cases l with
  |nil=>rw[run_convert_bytes_string w _ _ 5 _ _ _ Tryz.underlying62 Tryz.underlying5 Tryz.underlying9];rfl
  |cons c l=>obtain⟨b,o,h1,_⟩:=h.get 0 (by simp);cases h1
 |some A=>
  cases l with
  |nil=>
   rw[run_convert_bytes_string w _ _ 5 _ _ _ Tryz.underlying62 Tryz.underlying5 Tryz.underlying9]
   exact run_bytesToString w A 0 cap [] (run_loadCells_list (P:=Tryz.prog) w A [] (fun j v hv=>by simp at hv))
  |cons c l=>
   obtain⟨b,o,h1,_⟩:=h.get 0 (by simp)
   cases h1
   exact TK w _ _ 5 Tryz.underlying62 Tryz.underlying5 Tryz.underlying9 b o cap (c::l) (fun i hi=>h.at i hi)
theorem sameKey_eq(s t:Sl)(k:Key)(w:World)(h:kV w s k)(h':kV w t k):Calls Tryz.prog 82 #[.agg (bY s k),.agg (bY t k)] w fun e w'=>e=.returned (.bool true)∧Below w.heap.size w w':=by
 have hB:Below w.heap.size w ((w.alloc (.cells (bY s k) 64)).alloc (.cells (bY t k) 64)):=((Below.refl _ _).alloc (Nat.le_refl _) _).alloc (by simp) _
 have c1:=La _ s.a k.bytes s.cap (BytesAt.later hB h)
 have c2:=La _ t.a k.bytes t.cap (BytesAt.later hB h')
 obtain⟨e1,_⟩:=kT k.profile
 obtain⟨e2,_⟩:=kT k.version
 have e3:=KZ ⟨k.bytes.toArray⟩
 go_enter Tryz.func82,Tryz.ntmps82
 go_wp2_with fail
 go_ret
 exact⟨rfl,hB⟩
theorem aaT(a a':Option Addr)(cap cap':Nat)(w:World):Calls Tryz.prog 42 #[.slice a 0 cap,.slice a' 0 cap'] w fun e w'=>e=.returned (.bool true)∧Below w.heap.size w w':=by
 go_enter Tryz.func42,Tryz.ntmps42
 go_wp2
 refine wp_loop_rounds 1 ?_
 rw[rounds_succ]
 go_wp2
 go_ret
 exact⟨rfl,Below.refl _ _⟩
theorem RN(a a':Option Addr)(cap cap':Nat)(l:List aB)(w:World)(hl:eG w a l)(hl':eG w a' l):Calls Tryz.prog 42 #[.slice a l.length cap,.slice a' l.length cap'] w fun e w'=>e=.returned (.bool true)∧Below w.heap.size w w':=by
 have hn:l.length≤4294967000:=hl.1
 rcases aO.addr hl with h0|⟨b,o,rfl,hb⟩
 ·obtain rfl:l=[]:=List.eq_nil_of_length_eq_zero h0
  exact aaT a a' cap cap' w
 rcases aO.addr hl' with h0|⟨b',o',rfl,hb'⟩
 ·obtain rfl:l=[]:=List.eq_nil_of_length_eq_zero h0
  exact aaT _ a' cap cap' w
 obtain⟨_,e2⟩:=kT (l.length:Int)
 go_enter Tryz.func42,Tryz.ntmps42
 go_wp2
 go_loopw [5] (fun i wr=>Below w.heap.size w wr∧∃k:Nat,k≤l.length∧i=.int .i64 k) (fun i _=>l.length-(intOf i).toNat)
 case atStart=>exact⟨Below.refl _ _,0,Nat.zero_le _,rfl⟩
 case round=>
  obtain⟨hbr,i,hi,rfl⟩:=hrel
  by_cases hlt:i<l.length
  ·obtain⟨t,hc,hp⟩:=hl.at i hlt
   obtain⟨t',hc',hp'⟩:=hl'.at i hlt
   have hii:(i:Int)<(l.length:Int):=by omega
   have hs:=aaS l[i]
   go_wp2
   refine dP hbr (by kernel_rfl) (by kernel_rfl) ?_
   repeat (go_big_quiet_step ((go_at_call 21;rename_i xw;exact Calls.gX (hs▸qX _ _ _ _ _ (hp.later xw.b) (hp'.later xw.b)))))
   refine wpQuiet_nil ?_
   intro w2 hb2
   go_wp2
   go_roundw
   case rel=>exact⟨hb2,i+1,by omega,by go_num⟩
   case measure=>simp[intOf];omega
  ·go_wp2
   go_ret
   exact⟨rfl,hbr⟩
theorem apZ(s t:Sl)(x:aW)(w:World)(hx:jG w s x)(hx':jG w t x):Calls Tryz.prog 41 #[.agg (aV s x),.agg (aV t x)] w fun e w'=>e=.returned (.bool true)∧Below w.heap.size w w':=by
 have hl:x.keys.length≤4294967000:=hx.1.1
 have hB:Below w.heap.size w ((w.alloc (.cells (aV s x) 61)).alloc (.cells (aV t x) 61)):=((Below.refl _ _).alloc (Nat.le_refl _) _).alloc (by simp) _
 obtain⟨_,e1⟩:=kT x.version
 obtain⟨_,e2⟩:=kT x.jr
 obtain⟨_,e3⟩:=kT x.created
 obtain⟨_,e4⟩:=kT (x.keys.length:Int)
 have e5:=KZ x.fP
 go_enter Tryz.func41,Tryz.ntmps41
 go_wp2
 go_loopw [5] (fun i wr=>Below ((w.alloc (.cells (aV s x) 61)).alloc (.cells (aV t x) 61)).heap.size ((w.alloc (.cells (aV s x) 61)).alloc (.cells (aV t x) 61)) wr∧∃k:Nat,k≤x.keys.length∧i=.int .i64 k) (fun i _=>x.keys.length-(intOf i).toNat)
 case atStart=>exact⟨Below.refl _ _,0,Nat.zero_le _,rfl⟩
 case round=>
  obtain⟨hbr,k,hk,rfl⟩:=hrel
  obtain⟨hcc,aU,hrr⟩:=bf hbr
  by_cases hlt:k<x.keys.length
  ·obtain⟨b,o,t1,ha,hc,hp⟩:=hx.1.get k hlt
   obtain⟨b',o',t2,ha',hc',hp'⟩:=hx'.1.get k hlt
   have hb:b<w.heap.size:=gq hc
   have hb':b'<w.heap.size:=gq hc'
   have hb1:b<w.heap.size+1+1:=by omega
   have hb1':b'<w.heap.size+1+1:=by omega
   have hki:(k:Int)<(x.keys.length:Int):=by omega
   go_wp2
   refine dP hbr (by kernel_rfl) (by kernel_rfl) ?_
   repeat (go_big_quiet_step ((go_at_call 82;rename_i xw;exact Calls.gX (sameKey_eq _ _ _ _ ((hp.later hB).later xw.b) ((hp'.later hB).later xw.b)))))
   refine wpQuiet_nil ?_
   intro w2 hb2
   go_wp2
   go_roundw
   case rel=>exact⟨hb2,k+1,by omega,by go_num⟩
   case measure=>simp[intOf];omega
  ·go_wp2
   go_ret
   exact⟨rfl,hB.trans (hbr.mono (by simp;omega))⟩
theorem ap0(s t:Sl)(p:aB)(w:World)(hp:bg w s p)(hq:bg w t p):Calls Tryz.prog 21 #[.agg (ak s p),.agg (ak t p)] w fun e w'=>e=.returned (.bool true)∧Below w.heap.size w w':=by
 have x:=qX s t p p w hp hq;rw[aaS]at x;exact x
theorem same_eq(r r':aI)(d:Entry)(w:World)(he:bz w r d)(he':bz w r' d):Calls Tryz.prog 10 #[.agg (ae r d),.agg (ae r' d)] w fun e w'=>e=.returned (.bool true)∧Below w.heap.size w w':=by
 have hB:Below w.heap.size w ((w.alloc (.cells (ae r d) 32)).alloc (.cells (ae r' d) 32)):=((Below.refl _ _).alloc (Nat.le_refl _) _).alloc (by simp) _
 have hl1:d.keys.length≤4294967000:=he.keys.1
 have hl2:d.history.length≤4294967000:=he.history.1
 obtain⟨_,e0⟩:=kT (d.keys.length:Int)
 obtain⟨_,e1⟩:=kT (d.history.length:Int)
 obtain⟨_,e2⟩:=kT d.attrs
 obtain⟨_,e3⟩:=kT d.gU
 obtain⟨_,e4⟩:=kT d.mO
 obtain⟨_,e5⟩:=kT d.mP
 obtain⟨_,e6⟩:=kT d.mQ
 obtain⟨_,e7⟩:=kT d.mV
 have e8:=KZ d.aK
 obtain⟨g0,_⟩:=kT d.fails
 obtain⟨g1,_⟩:=kT d.iw
 obtain⟨g2,_⟩:=kT d.jw
 go_enter Tryz.func10,Tryz.ntmps10
 go_wp2_with fail
 go_loopw [5] (fun i wr=>Below ((w.alloc (.cells (ae r d) 32)).alloc (.cells (ae r' d) 32)).heap.size ((w.alloc (.cells (ae r d) 32)).alloc (.cells (ae r' d) 32)) wr∧∃k:Nat,k≤d.keys.length∧i=.int .i64 k) (fun i _=>d.keys.length-(intOf i).toNat)
 case atStart=>exact⟨Below.refl _ _,0,Nat.zero_le _,rfl⟩
 case round=>
  obtain⟨hbr,k,hk,rfl⟩:=hrel
  obtain⟨hcc,aU,hrr⟩:=bf hbr
  by_cases hlt:k<d.keys.length
  ·obtain⟨b,o,t1,ha,hc,hp⟩:=he.keys.get k hlt
   obtain⟨b',o',t2,ha',hc',hp'⟩:=he'.keys.get k hlt
   have hb:b<w.heap.size:=gq hc
   have hb':b'<w.heap.size:=gq hc'
   have hb1:b<w.heap.size+1+1:=by omega
   have hb1':b'<w.heap.size+1+1:=by omega
   have hki:(k:Int)<(d.keys.length:Int):=by omega
   go_wp2_with fail
   refine dP hbr (by kernel_rfl) (by kernel_rfl) ?_
   repeat (go_big_quiet_step ((go_at_call 41;rename_i xw;exact Calls.gX (apZ _ _ _ _ ((hp.later hB).later xw.b) ((hp'.later hB).later xw.b)))))
   refine wpQuiet_nil ?_
   intro w2 hb2
   go_wp2_with fail
   go_roundw
   case rel=>exact⟨hb2,k+1,by omega,by go_num⟩
   case measure=>simp[intOf];omega
  ·obtain⟨wo,rfl⟩:∃wo:World,wo=wr:=⟨_,rfl⟩
   go_wp2_with fail
   go_loopw [6] (fun i wr=>Below ((w.alloc (.cells (ae r d) 32)).alloc (.cells (ae r' d) 32)).heap.size ((w.alloc (.cells (ae r d) 32)).alloc (.cells (ae r' d) 32)) wr∧∃k:Nat,k≤d.history.length∧i=.int .i64 k) (fun i _=>d.history.length-(intOf i).toNat)
   case atStart=>exact⟨hbr,0,Nat.zero_le _,rfl⟩
   case round=>
    obtain⟨ui,k2,hk2,rfl⟩:=hrel
    clear hcc aU hrr
    obtain⟨hcc,aU,hrr⟩:=bf ui
    by_cases hlt2:k2<d.history.length
    ·obtain⟨b,o,t1,ha,hc,hp⟩:=he.history.get k2 hlt2
     obtain⟨b',o',t2,ha',hc',hp'⟩:=he'.history.get k2 hlt2
     have hb:b<w.heap.size:=World.block_lt_of_cell? w _ hc
     have hb':b'<w.heap.size:=World.block_lt_of_cell? w _ hc'
     have hb1:b<w.heap.size+1+1:=by omega
     have hb1':b'<w.heap.size+1+1:=by omega
     have hki:(k2:Int)<(d.history.length:Int):=by omega
     have c1:∀x:Later ((w.alloc (.cells (ae r d) 32)).alloc (.cells (ae r' d) 32)),(convert 62 9 (.slice t1.a d.history[k2].length t1.cap)).run Tryz.prog x.w=.ok (.string ⟨d.history[k2].toArray⟩) x.w:=fun x=>La _ _ _ _ ((hp.later hB).later x.b)
     have c2:∀x:Later ((w.alloc (.cells (ae r d) 32)).alloc (.cells (ae r' d) 32)),(convert 62 9 (.slice t2.a d.history[k2].length t2.cap)).run Tryz.prog x.w=.ok (.string ⟨d.history[k2].toArray⟩) x.w:=fun x=>La _ _ _ _ ((hp'.later hB).later x.b)
     have e9:=KZ ⟨d.history[k2].toArray⟩
     go_wp2_with fail
     refine dP ui (by kernel_rfl) (by kernel_rfl) ?_
     repeat (go_big_quiet_step (fail))
     refine wpQuiet_nil ?_
     intro w2 hb2
     go_wp2_with fail
     go_roundw
     case rel=>first|exact⟨hb2,k2+1,by omega,by go_num⟩|((repeat apply Exists.intro);exact⟨⟨hb2,k2+1,by omega,by go_num⟩,rfl⟩)
     case measure=>simp[intOf];omega
    ·go_wp2_with fail
     refine(ap0 _ _ _ _ ((he.name.later hB).later ui) ((he'.name.later hB).later ui)).mono ?_
     rintro e w3 ⟨rfl,hy⟩
     have hb3:=ag ui hy
     clear hcc aU hrr hy
     obtain⟨hcc,aU,hrr⟩:=bf hb3
     dsimp only
     go_wp2_with fail
     refine(RN _ _ _ _ _ _ ((he.aliases.later hB).later hb3) ((he'.aliases.later hB).later hb3)).mono ?_
     rintro e w4 ⟨rfl,hy⟩
     have hb4:=ag hb3 hy
     clear hcc aU hrr hy
     obtain⟨hcc,aU,hrr⟩:=bf hb4
     dsimp only
     go_wp2_with fail
     refine(RN _ _ _ _ _ _ ((he.targets.later hB).later hb4) ((he'.targets.later hB).later hb4)).mono ?_
     rintro e w5 ⟨rfl,hy⟩
     have hb5:=ag hb4 hy
     clear hcc aU hrr hy
     obtain⟨hcc,aU,hrr⟩:=bf hb5
     dsimp only
     go_wp2_with fail
     refine(RN _ _ _ _ _ _ ((he.bH.later hB).later hb5) ((he'.bH.later hB).later hb5)).mono ?_
     rintro e w6 ⟨rfl,hy⟩
     have hb6:=ag hb5 hy
     clear hcc aU hrr hy
     obtain⟨hcc,aU,hrr⟩:=bf hb6
     dsimp only
     go_wp2_with fail
     go_ret
     exact⟨rfl,hB.trans (hb6.mono (by simp;omega))⟩
end Go.Proofs.YtaghcadlgbnbdaaGreatDoor
namespace Go.WW
open Go.RowKit
theorem wM{w:World}{c:Array Value}{t:TypeId}{k:Nat}(h:k=w.heap.size):(w.alloc (.cells c t)).heap[k]?=some (.cells c t):=h▸World.alloc_heap_new _ _
theorem RQ{w:World}{o o':Obj}{k:Nat}(h:w.heap[k]?=some o):(w.alloc o').heap[k]?=some o:=(Below.heap_alloc w o' k (Array.getElem?_eq_some_iff.1 h).1).trans h
theorem RS{α β:Type}{f:α→β}{c:β→β→Int}(hc:yH c):∀{l m:List α},l.Perm m→Sorted c f l→Sorted c f m→l=m
 | [],m,hp,_,_=>(List.nil_perm.1 hp).symm
 |a::l,[],hp,_,_=>by have:=hp.length_eq;simp at this
 |a::l,b::m,hp,h1,h2=>by
  have e1:=List.pairwise_cons.1 h1
  have e2:=List.pairwise_cons.1 h2
  have hab:a=b:=by
   rcases List.mem_cons.1 (hp.mem_iff.1 (List.mem_cons_self ..))with h|h
   ·exact h
   ·rcases List.mem_cons.1 (hp.mem_iff.2 (List.mem_cons_self (a:=b) (l:=m)))with h'|h'
    ·exact h'.symm
    ·have a1:=e2.1 a h
     have a2:=e1.1 b h'
     have:=hc.tX (f a) (f b)
     omega
  subst hab
  rw[RS hc ((List.perm_cons a).1 hp) e1.2 e2.2]
theorem ap1{w:World}{a a2:Option Addr}{L:List ah}(h:kS w a L)(h2:fG w a2 L):fG w a L:=by
 refine⟨h.1,fun i hi=>?_⟩
 obtain⟨b,o,cs,h3,h4,x,hx,h5⟩:=h.2 i hi
 refine⟨b,o,cs,h3,h4,x,hx,h5,?_⟩
 obtain⟨_,_,_,_,h6⟩:=fG.get h2 i hi
 rw[List.getElem?_eq_getElem hi]at hx
 cases hx
 exact h6
theorem ap2{α β:Type}{f:α→β}{l:List α}(h:(l.map f).Nodup):l.Nodup:=by
 refine(List.pairwise_map.1 h).imp ?_
 rintro a c hne rfl
 exact hne rfl
theorem Lc{c:Code}{P:Program}{Q:Exit→Act→World→Prop}{a:Act}{w:World}(m:Nat)(M:Nat→World→Prop)(F:Act)
  (h1:c.wp P (fun e a' w'=>(e=.normal∨e=.exit m)∧a'=F∧∃k,M k w') a w) (hx:∀a w,Q .normal a w→Q (.exit m) a w) (h2:∀k w',M k w'→Q .normal F w'):c.wp P Q a w:=by
 refine wp_mono h1 ?_
 rintro e a' w' ⟨he,rfl,k,h⟩
 rcases he with rfl|rfl
 ·exact h2 k w' h
 ·exact hx _ _ (h2 k w' h)
theorem Ld{id:Nat}{Q:Exit→Act→World→Prop}{a:Act}{w:World}(h:Exit.inBlock id Q .normal a w):Exit.inBlock id Q (.exit id) a w:=by
 simp only[Exit.inBlock]at h ⊢
 exact h
theorem Le{α:Type}{l:List α}{k:Nat}{x:α}{i:Nat}(h:l.zipIdx[k]?=some (x,i)):l[k]?=some x∧k=i:=by
 rw[List.getElem?_zipIdx]at h
 cases hy:l[k]? with
 |none=>rw[hy]at h;simp at h
 |some y=>rw[hy]at h;simp at h;exact⟨by rw[h.1],h.2⟩
structure Lh(b5 b6 b8 bE bP:Nat)(many:Int)(tA tI tB tR tE tP:TypeId)(sl pl:Sl)(Y:List EE)(Q:List ah)(es ps:Sl)(D:Db)(X:List EE)(y:World):Prop where
 x5:y.heap[b5]?=some (.cells #[.int .i64 many] tI)
 x6:y.heap[b6]?=some (.cells #[.bool false] tB)
 x8:y.heap[b8]?=some (.cells (aj es ps D) tR)
 xE:y.heap[bE]?=some (.cells #[.slice sl.a Y.length sl.cap] tE)
 xP:y.heap[bP]?=some (.cells #[.slice pl.a Q.length pl.cap] tP)
 rE:uF y sl.a Y
 rP:fG y pl.a Q
 rX:uF y es.a X
 rD:fG y ps.a D.ax
theorem uF.aaU{w w':World}{a:Option Addr}{X:List EE}(h:uF w a X)(hb:Below w.heap.size w w'):uF w' a X:=⟨h.rows.later hb,fun x hx=>(h.each x hx).later hb⟩
theorem Lh.later{b5 b6 b8 bE bP:Nat}{many:Int}{tA tI tB tR tE tP:TypeId}{sl pl:Sl}{Y:List EE}{Q:List ah}{es ps:Sl}{D:Db}{X:List EE}{y y':World}(h:Lh b5 b6 b8 bE bP many tA tI tB tR tE tP sl pl Y Q es ps D X y)(hb:Below y.heap.size y y'):Lh b5 b6 b8 bE bP many tA tI tB tR tE tP sl pl Y Q es ps D X y':=
 ⟨aA hb h.x5,aA hb h.x6,aA hb h.x8,aA hb h.xE,aA hb h.xP,h.rE.aaU hb,h.rP.later hb,h.rX.aaU hb,h.rD.later hb⟩
end Go.WW
namespace Go.Proofs.YtaghcadlgbnbdaaGreatDoor
open Go.RowKit Go.WW
theorem ap3(b:Nat)(w:World):(binOp .eql 48 (.func (.func 29) #[] #[.pointer (some ⟨b,0,none⟩)]) .nilFunc).run Tryz.prog w=.ok (.bool false) w:=by kernel_rfl
theorem ap4(b:Nat)(w:World):(binOp .eql 51 (.func (.func 74) #[] #[.pointer (some ⟨b,0,none⟩)]) .nilFunc).run Tryz.prog w=.ok (.bool false) w:=by kernel_rfl
theorem ap5(ρ:Operand→Value)(dst:Option Tmp)(x:Operand)(ty:TypeId)(pos:String)(after:Array Edge)(guard:Option (Nat×Bool)):execOp ρ {dst,op:=.buildSlice 22 1 #[(0,x)],type:=ty,pos,after,guard}=vK 22 1 #[(0,ρ x)]:=by simp[execOp,vK]
theorem ap6(w:World)(z:dw)(x:dL):(vK 22 1 #[(0,.agg (dM z x))]).run Tryz.prog w=.ok (.value (.slice (some ⟨w.heap.size,0,none⟩) 1 1)) (w.alloc (.cells (dM z x) 37)):=by kernel_rfl
attribute [local go_sem] ap6
attribute [local go_sem ↓] ap5
theorem ap7{w:World}{z:dw}{x:dL}(h:sF w z x):pF (w.alloc (.cells (dM z x) 37)) (some ⟨w.heap.size,0,none⟩) [x]:=
 ⟨by simp[lim],fun i hi=>⟨_,_,_,rfl,by
  obtain rfl:i=0:=by simp at hi;exact hi
  rw[G6 rfl,Nat.zero_add,Nat.zero_mul];exact dH (Jw z x),x,z,by
  obtain rfl:i=0:=by simp at hi;exact hi
  rfl,rfl,h.later (aC (Below.refl _ w) _)⟩⟩
theorem ap8{F:Fence}{n:Nat}{P:Program}{fn:Func}{R:Ending→World→Prop}{tmps:Array Value}{w:World}{d3 d2 d1 d0 T:Nat}{v:Value}{ty:TypeId}{c0:Value}
  (h3:w.heap[d3]?=some (.deferred (some []))) (h2:w.heap[d2]?=some (.deferred (some []))) (h1:w.heap[d1]?=some (.deferred (some []))) (h0:w.heap[d0]?=some (.deferred (some []))) (h8:w.heap[T]?=some (.cells #[c0] ty))
  (t3:d3≠T) (t2:d2≠T) (t1:d1≠T) (t0:d0≠T) (n32:d2≠d3) (n31:d1≠d3) (n30:d0≠d3) (n21:d1≠d2) (n20:d0≠d2) (n10:d0≠d1)
  (hr:∀X:World,X.cell? ⟨T,0,none⟩=some v→(results fn tmps).run P X=.ok v X)
  (hR:R (.returned v) (((((w.setCell ⟨T,0,none⟩ v).putObj d3 (.deferred none)).putObj d2 (.deferred none)).putObj d1 (.deferred none)).putObj d0 (.deferred none))) :
  bodyPostM F n P fn R .ret {tmps,defers:=[{target:=.collected d3,args:=#[]},{target:=.collected d2,args:=#[]},{target:=.collected d1,args:=#[]},{target:=.collected d0,args:=#[]}]} (w.setCell ⟨T,0,none⟩ v):=by
 have e3:=(Below.heap_setCell w ⟨T,0,none⟩ v d3 t3).trans h3
 have e2:=(Below.heap_setCell w ⟨T,0,none⟩ v d2 t2).trans h2
 have e1:=(Below.heap_setCell w ⟨T,0,none⟩ v d1 t1).trans h1
 have e0:=(Below.heap_setCell w ⟨T,0,none⟩ v d0 t0).trans h0
 have e8:=cZ (o:=0) v h8
 generalize w.setCell ⟨T,0,none⟩ v=X1 at *
 have f2:(X1.putObj d3 (.deferred none)).heap[d2]?=some (.deferred (some [])):=(World.putObj_heap_other n32).trans e2
 have f1:((X1.putObj d3 (.deferred none)).putObj d2 (.deferred none)).heap[d1]?=some (.deferred (some [])):=(World.putObj_heap_other n21).trans ((World.putObj_heap_other n31).trans e1)
 have f0:(((X1.putObj d3 (.deferred none)).putObj d2 (.deferred none)).putObj d1 (.deferred none)).heap[d0]?=some (.deferred (some [])):=(World.putObj_heap_other n10).trans ((World.putObj_heap_other n20).trans ((World.putObj_heap_other n30).trans e0))
 have g8:((((X1.putObj d3 (.deferred none)).putObj d2 (.deferred none)).putObj d1 (.deferred none)).putObj d0 (.deferred none)).heap[T]?=some (.cells (#[c0].setIfInBounds 0 v) ty):=(World.putObj_heap_other (Ne.symm t0)).trans ((World.putObj_heap_other (Ne.symm t1)).trans ((World.putObj_heap_other (Ne.symm t2)).trans ((World.putObj_heap_other (Ne.symm t3)).trans e8)))
 refine⟨by simp,.inl ⟨_,_,rfl,run_takeDeferred e3,by simp,.inl ⟨_,_,rfl,run_takeDeferred f2,by simp,.inl ⟨_,_,rfl,run_takeDeferred f1,by simp,.inl ⟨_,_,rfl,run_takeDeferred f0,?_⟩⟩⟩⟩⟩
 exact⟨v,hr _ ((ai g8).1 0),hR⟩
theorem ap9{w wf:World}{T d3 d2 d1 d0:Nat}{v:Value}(h:Below w.heap.size w wf)(hT:w.heap.size≤T)(h3:w.heap.size≤d3)(h2:w.heap.size≤d2)(h1:w.heap.size≤d1)(h0:w.heap.size≤d0):Below w.heap.size w (((((wf.setCell ⟨T,0,none⟩ v).putObj d3 (.deferred none)).putObj d2 (.deferred none)).putObj d1 (.deferred none)).putObj d0 (.deferred none)):=
 ((((((But.of_below (S:=fun j=>w.heap.size≤j) h).trans (rY (But.refl _ wf) (.inl hT))).trans ((But.putObj _).mono fun j (hj:j=d3)=>by omega)).trans ((But.putObj _).mono fun j (hj:j=d2)=>by omega)).trans ((But.putObj _).mono fun j (hj:j=d1)=>by omega)).trans ((But.putObj _).mono fun j (hj:j=d0)=>by omega)).below (Nat.le_refl _) fun j hj=>hj
attribute [local go_sem] ap3 ap4
attribute [local go_sem] Oper.semAt_some
theorem aqa(a:Option Addr)(cap:Nat)(l:List dL)(z:dw)(x:dL)(many:Int)(w:World)(hl:pF w a l)(hx:sF w z x) :
  Calls Tryz.prog 3 #[.slice a l.length cap,.agg (dM z x),.int .i64 many] w fun y w'=>y=.returned (.bool true)∧Below w.heap.size w w':=by
 obtain⟨W,hW⟩:∃W,W=((w.alloc (.cells (dM z x) 37)).alloc (.cells #[.int .i64 many] 3)).alloc (.cells #[.bool false] 4):=⟨_,rfl⟩
 have hB:Below w.heap.size w W:=by rw[hW];exact aC (aC (aC (Below.refl _ _) _) _) _
 have g4:W.heap[w.heap.size]?=some (.cells (dM z x) 37):=by rw[hW];exact RQ (RQ (wM rfl))
 have g5:W.heap[w.heap.size+1]?=some (.cells #[.int .i64 many] 3):=by rw[hW];exact RQ (wM (by simp))
 have g6:W.heap[w.heap.size+2]?=some (.cells #[.bool false] 4):=by rw[hW];exact wM (by simp)
 have HL:=Lib.hid hl
 have HX:=Lib.hid hx
 clear hl hx
 refine(callsIn_wide (n:=0)).1 ?_
 refine callsIn_of_wp_marks Tryz.func3 rfl trivial ?_ rfl
 simp only[Tryz.ntmps3,List.size_toArray,List.length_cons,List.length_nil,Nat.reduceAdd,Nat.reduceSub,Array.replicate_succ,Array.replicate_zero,List.push_toArray,List.append_toArray,List.nil_append,List.cons_append]
 gi_wp2
 refine⟨trivial,rfl,?_⟩
 rw[←hW]
 refine(callsIn_wide.2 (Zd a cap l 8 W (HL.out.later hB))).mono ?_
 rintro y w1 ⟨c,rfl,hc,hb1⟩
 clear hW
 have e4:=aA hb1 g4
 have e5:=aA hb1 g5
 have e6:=aA hb1 g6
 have hB1:=ag hB hb1
 have HC:=Lib.hid hc
 clear hc g4 g5 g6 hB hb1 W
 cases c
 case false=>
  dsimp only
  gi_wp2
  rename_i hKa
  refine⟨trivial,hKa _ _ ?_⟩
  gi_wp2
  refine⟨trivial,rfl,(callsIn_wide.2 (RG _)).mono ?_⟩
  rintro y wk ⟨rfl,hbk⟩
  have Gy:=aA hbk e6
  obtain⟨rc,rf,rr,rl⟩:=ai Gy
  dsimp only
  gi_wp2
  have hset:=cZ (o:=0) (.bool true) Gy
  have hcr:(wk.setCell ⟨w.heap.size+2,0,none⟩ (.bool true)).cell? ⟨w.heap.size+2,0,none⟩=some (.bool true):=(ai hset).1 0
  exact⟨.bool true,by simp[results,Tryz.f3,go_sem,hcr],rfl,(ag hB1 hbk).setCell (show w.heap.size≤w.heap.size+2 by omega) _⟩
 have hn8:l.length≤8:=by have:=HC.out rfl;omega
 clear HC
 obtain⟨c4,f4,r4,l4⟩:=ai e4
 dsimp only
 have hrA:row? w1 w.heap.size 0 33=some (dM z x):=by rw[r4];exact dH (Jw z x)
 clear c4 f4 r4
 gi_wp2
 have HX1:=Lib.hid (HX.out.later hB1)
 have hBs:=aC (Below.refl _ w1) (.cells (dM z x) 37)
 refine⟨trivial,rfl,(callsIn_wide.2 (Zd (some ⟨w1.heap.size,0,none⟩) 1 [x] 1 _ (ap7 HX1.out))).mono ?_⟩
 rintro y w2 ⟨c,rfl,-,hb2⟩
 have ik:=ag hBs hb2
 have h4:=aA ik e4
 have h5:=aA ik e5
 have h6:=aA ik e6
 have hB2:=ag hB1 ik
 clear e4 e5 e6 hBs hb2 ik HX1 hrA hB1 l4
 cases c
 case false=>
  dsimp only
  gi_wp2
  refine⟨trivial,rfl,(callsIn_wide.2 (RG _)).mono ?_⟩
  rintro y wk ⟨rfl,hbk⟩
  have Gy:=aA hbk h6
  obtain⟨rc,rf,rr,rl⟩:=ai Gy
  dsimp only
  gi_wp2
  have hset:=cZ (o:=0) (.bool true) Gy
  have hcr:(wk.setCell ⟨w.heap.size+2,0,none⟩ (.bool true)).cell? ⟨w.heap.size+2,0,none⟩=some (.bool true):=(ai hset).1 0
  exact⟨.bool true,by simp[results,Tryz.f3,go_sem,hcr],rfl,(ag hB2 hbk).setCell (show w.heap.size≤w.heap.size+2 by omega) _⟩
 dsimp only
 gi_wp2
 refine⟨trivial,rfl,(callsIn_wide.2 (amu a cap l w2 (HL.out.later hB2) (by omega))).mono ?_⟩
 rintro y w3 ⟨S,b,n,e,p,es,ps,D,X,rfl,hb3,oC,hS⟩
 have k4:=aA hb3 h4
 have k5:=aA hb3 h5
 have k6:=aA hb3 h6
 have hB3:=ag hB2 hb3
 have hs2:=hB2.size
 have l6:w.heap.size+2<w2.heap.size:=(Array.getElem?_eq_some_iff.1 h6).1
 clear h4 h5 h6
 dsimp only
 gi_wp2
 have hb8:=aC (Below.refl _ w3) (.cells (aj es ps D) 44)
 have zI:=World.alloc_heap_new w3 (.cells (aj es ps D) 44)
 have Gz:=oC.later hb8
 have m4:=aA hb8 k4
 have m5:=aA hb8 k5
 have m6:=aA hb8 k6
 have hB8:=ag hB3 hb8
 have hs3:=hb3.size
 have hS8:∀j,S j→w2.heap.size≤j∧j<w3.heap.size:=fun j hj=>⟨hS j hj,oC.lt j hj⟩
 clear k4 k5 k6 hb3 oC hS hb8
 generalize (w3.alloc (.cells (aj es ps D) 44))=V8 at *
 generalize aqc:w3.heap.size=b8 at *
 have hw3:w2.heap.size≤b8:=hs3
 clear aqc hs3 hB3
 obtain⟨NL,E,P,hP,hR⟩:=Gz.ex
 have hEX:E.length=X.length:=by have:=hR.perm.length_eq;simpa using this
 have hPD:P.length=D.ax.length:=hR.eu.perm.length_eq
 have hn1:=Gz.n1
 have hn2:=Gz.n2
 have DD:=Lib.hid Gz
 have HP:=Lib.hid hP
 have HR:=Lib.hid hR
 have RU:=Lib.hid hS8
 have hED:(E.map dW).Nodup:=ap2 (f:=textOf) (by rw[List.map_map];have:=hR.good.nodup;rw[List.map_map]at this;exact this)
 have hPN:(P.map lI).Nodup:=(hR.eu.perm.map _).nodup_iff.2 hR.eu.nodup
 clear Gz hP hR hS8
 refine⟨trivial,rfl,(callsIn_wide.2 (ajp b n e p fJ D.ay _ E P V8 HP.out.db EY (by omega) hED (fun q hq=>(HP.out.keep q hq).out))).mono ?_⟩
 rintro y w4 ⟨sl,Y,rfl,hb4,jl,RV,hYs,hYd⟩
 have hP4:=HP.out.later hb4
 dsimp only
 gi_wp2
 refine⟨trivial,rfl,(callsIn_wide.2 (apY b n e p fJ D.ay _ E P w4 hP4.db EY (by omega) hPN)).mono ?_⟩
 rintro y w5 ⟨bP,pl,Q,rfl,aqf,hb5,RX,hQp,hQs,hQd⟩
 dsimp only
 have yQ:=ag (ag hB8 hb4) hb5
 have yC:=ag hb4 hb5
 have p4:=aA yC m4
 have p5:=aA yC m5
 have p6:=aA yC m6
 have p8:=aA yC zI
 have pE:=aA hb5 jl
 have aa4:=DD.out.later yC
 have HQ:Q=D.ax:=RS (f:=lI) oO (hQp.trans HR.out.eu.perm) hQs DD.out.sort
 have HY:Y.map (·.2)=X.map (·.2):=RS (f:=fun d:Entry=>d.name) (c:=dV) MC ((RV.map _).trans HR.out.perm) (List.pairwise_map.2 hYs) (List.pairwise_map.2 HR.out.sorted)
 subst HQ
 obtain⟨c8,f8,r8,l8⟩:=ai p8
 obtain⟨c4,f4,r4,l4⟩:=ai p4
 have uB:row? w5 b8 0 4=some (aj es ps D):=by rw[r8];exact dH (iT _ _ _)
 have hr4:row? w5 w.heap.size 0 33=some (dM z x):=by rw[r4];exact dH (Jw z x)
 clear c8 f8 r8 c4 f4 r4
 gi_wp2
 refine⟨trivial,rfl,(callsIn_wide.2 (PO S b n e p fJ es ps D X l.length w z x w5 aa4 EY (by omega) yQ HX.out (fun k hk=>by have:=RU.out k hk;omega))).mono ?_⟩
 rintro y w6 ⟨S',es',ps',D',X',rfl,hb6,-,-,-⟩
 have hV8:b8<V8.heap.size:=(Array.getElem?_eq_some_iff.1 zI).1
 have aqg:=yC.size
 have hof:∀j,aX b n e p j→w2.heap.size≤j∧j<b8:=fun j hj=>RU.out j (HP.out.sub j hj)
 have kp:∀j,j<w5.heap.size→(j<w2.heap.size∨b8≤j)→w6.heap[j]?=w5.heap[j]?:=fun j hj h=>hb6.block j hj fun hd=>by have:=hof j hd;omega
 have hbS:But S V8 w6:=(But.of_below yC).trans (hb6.mono fun j hj=>HP.out.sub j hj)
 have hs4:=hb4.size
 have hs5:=hb5.size
 have Ll:Lh (w.heap.size+1) (w.heap.size+2) b8 V8.heap.size bP many 37 3 4 44 41 42 sl pl Y D.ax es ps D X w6:=by
  refine⟨(kp _ (Array.getElem?_eq_some_iff.1 p5).1 (.inl (by omega))).trans p5,(kp _ (Array.getElem?_eq_some_iff.1 p6).1 (.inl (by omega))).trans p6,(kp _ (Array.getElem?_eq_some_iff.1 p8).1 (.inr (Nat.le_refl _))).trans p8,(kp _ (Array.getElem?_eq_some_iff.1 pE).1 (.inr (by omega))).trans pE,(kp _ (Array.getElem?_eq_some_iff.1 RX).1 (.inr (by omega))).trans RX,⟨hYd w6 fun k hk=>(kp k (Nat.lt_of_lt_of_le hk.2 hs5) (.inr (by have:=hk.1;omega))).trans (hb5.block k hk.2),fun q hq=>HP.out.keep q (RV.mem_iff.1 hq) w6 hbS⟩,?_,DD.out.ref.dR w6 hbS,DD.out.ref.eu w6 hbS⟩
  exact ap1 (hQd w6 fun k hk=>kp k hk.2 (.inr (by have:=hk.1;omega))) (DD.out.ref.eu w6 hbS)
 have Ip:Below w.heap.size w w6:=((But.of_below (S:=fun j=>w.heap.size≤j) yQ).trans (hb6.mono fun j hj=>by have:=hof j hj;omega)).below (Nat.le_refl _) fun j hj=>hj
 have hbl:w.heap.size+2<b8∧b8<V8.heap.size∧V8.heap.size<w6.heap.size∧bP<w6.heap.size∧b8<bP:=⟨by omega,hV8,by have:=(Array.getElem?_eq_some_iff.1 Ll.xE).1;exact this,(Array.getElem?_eq_some_iff.1 Ll.xP).1,by omega⟩
 have oN:=Lib.hid Ll
 have hXY:Y.length=X.length:=by have:=congrArg List.length HY;simpa using this
 have hDX:D.entries.length=X.length:=by have:=HR.out.eq;rw[this];simp
 have HYX:=Lib.hid HY
 have Lm:=Lib.hid (show D.ax.length≤50∧X.length≤50 from⟨by omega,by omega⟩)
 have Lp:=Lib.hid hXY
 have yD:=Lib.hid hDX
 have GG:=Lib.hid hbl
 generalize V8.heap.size=bE at *
 clear hb4 hb5 yC aa4 hP4 hQd hYd RV hQp hYs hQs hED hPN p4 p5 p6 p8 pE RX jl zI m4 m5 m6 hB8 yQ hs4 hs5 aqg hof kp hbS Ll hXY hDX hbl HY uB hr4 l8 l4 hb6 DD HP HR RU HL HX aqf hEX hPD hn1 hn2 l6 hs2 hw3 hV8 hB2
 dsimp only
 gi_wp2
 obtain⟨V,hV⟩:∃V,V=w6.alloc (.cells #[.int .i64 0] 3):=⟨_,rfl⟩
 have hVB:Below w6.heap.size w6 V:=by rw[hV];exact aC (Below.refl _ _) _
 have qT:V.heap[w6.heap.size]?=some (.cells #[.int .i64 0] 3):=by rw[hV];exact wM rfl
 rw[←hV]
 clear hV
 have GH:=Lib.hid hVB
 clear hVB
 refine wpIn_loop_rounds 3 ?_
 rw[roundsIn_succ]
 have GI:=GH.out.size
 obtain⟨qc,qf,-,ql⟩:=ai qT
 gi_wp2
 clear qc qf
 obtain⟨U0,wO⟩:∃U,U=V.alloc (.cells #[.int .i64 0] 3):=⟨_,rfl⟩
 have sW:Below V.heap.size V U0:=by rw[wO];exact aC (Below.refl _ _) _
 have u13:U0.heap[V.heap.size]?=some (.cells #[.int .i64 0] 3):=by rw[wO];exact wM rfl
 have uT:U0.heap[w6.heap.size]?=some (.cells #[.int .i64 0] 3):=aA sW qT
 rw[←wO]
 clear wO
 have pO:=Lib.hid (ag GH.out sW)
 have hs0:=sW.size
 have GK:V.heap.size<U0.heap.size:=(Array.getElem?_eq_some_iff.1 u13).1
 generalize RY:V.heap.size=dF at *
 have aba:w6.heap.size≤dF:=GI
 have abb:w6.heap.size<dF:=ql
 clear RY GI qT
 have sZ:=Lib.hid (oN.out.later pO.out)
 have wP:=Lib.hid (show ∀y,But (Off (one dF) U0) U0 y→Below w6.heap.size w6 y from fun y hy=>((But.of_below (S:=fun j=>w6.heap.size≤j) pO.out).trans (hy.mono fun j hj=>by
  rcases hj with(hj:j=_)|hj
  ·omega
  ·have:=pO.out.size;omega)).below (Nat.le_refl _) fun j hj=>hj)
 refine(wpIn_wide (n:=0)).2 ?_
 apply Lc 2 (M:=fun k Wc=>Wc.heap[dF]?=some (.cells #[.int .i64 (k:Int)] 3)∧But (Off (one dF) U0) U0 Wc∧(k:Int)=min (X.length:Int) (max 1 many)∧Wc.heap[U0.heap.size]?=some (.deferred (some []))∧U0.heap.size<Wc.heap.size)
 ·refine vg (gf:=29) (lb:=#[.pointer (some ⟨bE,0,none⟩)]) (by simp[go_sem]) (enters_of Tryz.func29 (by kernel_rfl) rfl) (S:=one dF) ?_ (xs:=Y.zipIdx) (V:=RJ) ?_ (aaR bE sl Y (one dF) U0 sZ.out.xE (fun j (hj:j=_)=>by omega) (fun y hy=>(oN.out.later (wP.out y hy)).rE))
   (fun c1 k Wc=>(Wc.heap[dF]?=some (.cells #[.int .i64 (k:Int)] 3)∧But (Off (one dF) U0) U0 Wc∧U0.heap.size<c1∧c1≤Wc.heap.size)∧(k=0∨(k:Int)<many))
   (fun c c1 k Wc=>c=.exit 2∧(Wc.heap[dF]?=some (.cells #[.int .i64 (k:Int)] 3)∧But (Off (one dF) U0) U0 Wc∧U0.heap.size<c1∧c1≤Wc.heap.size)∧1≤k∧k≤X.length∧many≤(k:Int)∧(k=1∨(k:Int)-1<many)) ?_ ?_ ?_ ?_ ?_ ?_
  ·rintro j (rfl:j=_);omega
  ·rintro c1 q v W0 Wc ⟨r',rfl,_⟩;rfl
  ·intro c1 Wc h1 h2 hb
   exact⟨⟨aA hb u13,But.of_below hb,h1,h2⟩,.inl rfl⟩
  ·rintro c1 k Wc lh ⟨⟨h1,h2,h3,h4⟩,h5⟩ hb
   exact⟨⟨(hb.block _ (Array.getElem?_eq_some_iff.1 h1).1 (fun h=>by have:=h.1;omega)).trans h1,h2.trans (hb.mono fun j hj=>.inr hj.1),h3,Nat.le_trans h4 hb.size⟩,h5⟩
  ·rintro c c1 k Wc lh ⟨h0,⟨h1,h2,h3,h4⟩,h5⟩ hb
   exact⟨h0,⟨(hb.block _ (Array.getElem?_eq_some_iff.1 h1).1 (fun h=>by have:=h.1;omega)).trans h1,h2.trans (hb.mono fun j hj=>.inr hj.1),h3,Nat.le_trans h4 hb.size⟩,h5⟩
  ·rintro c1 k q v W0 Wc hx ⟨r',rfl,qg⟩ ⟨⟨hk0,iD,hc0,lu⟩,hok⟩ hbs hc1 mZ
   have hsW:=hbs.size
   obtain⟨⟨s0,d⟩,ix⟩:=q
   obtain⟨hxk,rfl⟩:=Le hx
   have hkY:=(List.getElem?_eq_some_iff.1 hxk).1
   have hkX:k<X.length:=by have:=Lp.out;omega
   have Af:X[k].2=d:=by
    have h1:=congrArg (fun l=>l[k]?) HYX.out
    simp only[List.getElem?_map,hxk,List.getElem?_eq_getElem hkX,Option.map_some,Option.some.injEq]at h1
    exact h1.symm
   have hk1:=(hbs.block _ (Array.getElem?_eq_some_iff.1 hk0).1 (fun h=>by have:=h.1;omega)).trans hk0
   have hbu:=iD.trans (hbs.mono fun j hj=>(.inr hj.1:Off (one dF) U0 j))
   have HD:=Lib.hid qg
   have RZ:=(Array.getElem?_eq_some_iff.1 hk1).1
   clear qg hx hk0 iD hbs hxk
   dsimp only at HD ⊢
   gi_wp2
   have hal:Below Wc.heap.size Wc (Wc.alloc (.cells (ae r' d) 32)):=aC (Below.refl _ _) _
   refine⟨hal,fun U hU=>?_⟩
   have pR:∀j,j<Wc.heap.size→j≠U0.heap.size+1→U.heap[j]?=Wc.heap[j]?:=fun j hj hn=>(hU.block j (by simp;omega) (aT hn)).trans (hal.block j hj)
   have lW:U.heap[Wc.heap.size]?=some (.cells (ae r' d) 32):=(hU.block _ (by simp) (aT (by omega))).trans (World.alloc_heap_new _ _)
   have qi:Wc.heap.size<U.heap.size:=(Array.getElem?_eq_some_iff.1 lW).1
   have GL:U.heap[dF]?=some (.cells #[.int .i64 (k:Int)] 3):=(pR _ RZ (by omega)).trans hk1
   have dU:But (Off (one dF) U0) U0 U:=(hbu.trans (But.of_below hal)).trans (hU.mono fun j (hj:j=_)=>.inr (by omega))
   have jF:=oN.out.later (wP.out U dU)
   have wQ:U.heap[w6.heap.size]?=some (.cells #[.int .i64 0] 3):=(dU.block _ (by omega) (by rintro((h:_=_)|h)<;>omega)).trans uT
   have Ag:aZ U (fresh W0.heap.size Wc) (fun y=>kY W0.heap.size y r' d):=HD.out.to (fun j hj=>pR j hj.2 (by have:=hj.1;omega)) fun j hj=>hj
   have Ah:row? U Wc.heap.size 0 17=some (ae r' d):=by rw[bV lW];exact dH (by simp[go_sem])
   obtain⟨bX,oX,cs,tq,pU,q,GM,hcs⟩:=jF.rX.rows.2 k hkX
   rw[List.getElem?_eq_getElem hkX]at GM
   cases GM
   have GN:bz U X[k].1 d:=by have:=jF.rX.each _ (List.getElem_mem hkX);rwa[Af]at this
   have Si:row? U bX (oX+k*17) 17=some (ae X[k].1 d):=by rw[pU,hcs,bC,Af]
   obtain⟨kc,kf,-,kl⟩:=ai GL
   obtain⟨tc,-,-,tl⟩:=ai wQ
   obtain⟨c8,-,-,l8⟩:=ai jF.x8
   have GR:=(c8 2).trans (Eu es ps D)
   rw[tq]at GR
   have hnl:¬D.entries.length≤k:=by have:=yD.out;omega
   have GU:(k:Int)<(D.entries.length:Int):=by have:=yD.out;omega
   have Sj:k<D.entries.length:=by have:=yD.out;omega
   have GV:bX<U.heap.size:=gq pU
   have aqi:c1≤U.heap.size:=by omega
   have vY:=Lib.hid (show k<X.length from hkX)
   have Sm:k<50:=by have:=Lm.out;omega
   clear hal hU pR hbu hk1 c8 pU hcs Af tq HD
   gi_wp2
   refine TI.xm (fun _=>False) (But.refl _ U) (by kernel_rfl) (by kernel_rfl) (by kernel_rfl) ?_
   repeat (first|(refine TI.aP (by rfl) ?_)|(refine TI.gI (by rfl) (by rfl) (fun K hK=>?_);go_big_quiet_op;refine hK _ ?_;clear hK K))
   refine TI.jg (by rfl) (by rfl) (by rfl) (fun K hK=>?_)
   go_wp2_with fail
   refine(same_eq r' X[k].1 d U.drew ((Ag U (fun _ _=>rfl)).at_.later (Below.refl _ _).drew) (GN.later (Below.refl _ _).drew)).mono ?_
   rintro y U2 ⟨rfl,hb2⟩
   dsimp only
   have hbb:Below U.heap.size U U2:=(Below.refl _ U).drew.trans hb2
   refine hK _ _ (bI (But.of_below hbb)) ?_
   clear hK K
   repeat (first|(refine TI.aP (by rfl) ?_)|(refine TI.gI (by rfl) (by rfl) (fun K hK=>?_);go_big_quiet_op;refine hK _ ?_;clear hK K))
   refine TI.bW ?_
   have h13:=aA hbb GL
   have h12:=aA hbb wQ
   have h5:=aA hbb jF.x5
   have Sr:row? U2 Wc.heap.size 0 17=some (ae r' d):=by rw[fO (hbb.block _ qi)];exact Ah
   have hE2:pz (fun j=>W0.heap.size≤j) U2 r' d:=(Ag U2 fun j hj=>hbb.block j (Nat.lt_trans hj.2 qi)).toS
   have hs2:=hbb.size
   clear kc kf kl tc tl GR l8 hnl GU Sj Si GN Ah Ag lW GV jF
   gi_wp2
   refine⟨trivial,rfl,CallsIn.mono (CallsIn.inRound _ (callsIn_wide.2 (O4 (fun j=>W0.heap.size≤j) r' d U2 hE2))) ?_⟩
   rintro y U3 ⟨rfl,hb3⟩
   have t13:=(hb3.block _ (Array.getElem?_eq_some_iff.1 h13).1 (by omega)).trans h13
   have t12:=(hb3.block _ (Array.getElem?_eq_some_iff.1 h12).1 (by omega)).trans h12
   have abd:=GG.out
   have aqj:=pO.out.size
   have t5:=(hb3.block _ (Array.getElem?_eq_some_iff.1 h5).1 (by omega)).trans h5
   have hs3:=hb3.size
   obtain⟨kc,kf,-,kl⟩:=ai t13
   obtain⟨tc,-,-,tl⟩:=ai t12
   obtain⟨c5,-,-,l5⟩:=ai t5
   have hset:=cZ (o:=0) (.int .i64 ((k:Int)+1)) t13
   have hX:But (fun j=>one dF j∨c1≤j) U (U3.setCell ⟨dF,0,none⟩ (.int .i64 ((k:Int)+1))):=(((But.of_below hbb).trans (hb3.mono fun j (hj:W0.heap.size≤j)=>.inr (by omega)))).trans ((rY (S:=one dF) (But.refl _ U3) (.inl rfl)).mono fun j hj=>.inl hj)
   have HX:=Lib.hid hX
   have wR:=Lib.hid (show c1≤(U3.setCell ⟨dF,0,none⟩ (.int .i64 ((k:Int)+1))).heap.size by simp only[World.setCell,Array.size_modify];omega)
   have wS:=Lib.hid (dU.trans (hX.mono fun j hj=>hj.imp id (fun h=>by omega)):But (Off (one dF) U0) U0 _)
   have wU:=Lib.hid (show(U3.setCell ⟨dF,0,none⟩ (.int .i64 ((k:Int)+1))).heap[dF]?=some (.cells #[.int .i64 ((k+1:Nat):Int)] 3) by simpa using hset)
   clear hX hset dU h13 h12 h5 hE2 Sr hbb hb2 hb3 t13 t12 t5
   dsimp only
   by_cases hma:many≤(k:Int)+1
   ·gi_wp2
    exact⟨HX.out,rfl,⟨wU.out,wS.out,hc0,wR.out⟩,by omega,by have:=vY.out;omega,by omega,by omega⟩
   ·gi_wp2
    exact⟨HX.out,⟨wU.out,wS.out,hc0,wR.out⟩,.inr (by omega)⟩
  ·rintro c1 Wc ⟨⟨h1,h2,h3,h4⟩,h5⟩ hD
   rw[List.length_zipIdx]at h1 h5
   refine⟨.inl rfl,rfl,Y.length,h1,h2,by have:=Lp.out;omega,hD,by omega⟩
  ·rintro c c1 k Wc ⟨rfl,⟨h1,h2,h3,h4⟩,h5⟩ hD
   exact wp_exit ⟨.inr rfl,rfl,k,h1,h2,by omega,hD,by omega⟩
 ·exact fun _ _ h=>Ld h
 rintro kE Wc ⟨hK,hbW,GX,hD,hDs⟩
 have Ai:=Lib.hid (wP.out Wc hbW)
 have hTc:Wc.heap[w6.heap.size]?=some (.cells #[.int .i64 0] 3):=(hbW.block _ (by omega) (by rintro((h:_=_)|h)<;>omega)).trans uT
 have abe:=pO.out.size
 clear wP sZ pO u13 uT hbW sW
 generalize hdE:U0.heap.size=Lr at *
 have aql:dF<Lr:=GK
 have mM:=hD
 clear hdE hs0 GK hD
 clear U0
 have aqm:w6.heap.size<Wc.heap.size:=(Array.getElem?_eq_some_iff.1 hTc).1
 gi_wp2
 obtain⟨U1,wV⟩:∃U,U=Wc.alloc (.cells #[.int .i64 0] 3):=⟨_,rfl⟩
 have pV:Below Wc.heap.size Wc U1:=by rw[wV];exact aC (Below.refl _ _) _
 have u16:U1.heap[Wc.heap.size]?=some (.cells #[.int .i64 0] 3):=by rw[wV];exact wM rfl
 have uT:=aA pV hTc
 have u13:=aA pV hK
 rw[←wV]
 clear wV
 have tC:=Lib.hid (ag Ai.out pV)
 have GY:Wc.heap.size<U1.heap.size:=(Array.getElem?_eq_some_iff.1 u16).1
 have abf:=Ai.out.size
 replace mM:=aA pV mM
 generalize Su:Wc.heap.size=dA at *
 clear Su hTc hK pV Ai
 clear Wc
 have sZ:=Lib.hid (oN.out.later tC.out)
 have wW:=Lib.hid (show ∀y,But (Off (one dA) U1) U1 y→Below w6.heap.size w6 y from fun y hy=>((But.of_below (S:=fun j=>w6.heap.size≤j) tC.out).trans (hy.mono fun j hj=>by
  rcases hj with(hj:j=_)|hj
  ·omega
  ·have:=tC.out.size;omega)).below (Nat.le_refl _) fun j hj=>hj)
 have Sv:=GG.out
 have abg:=tC.out.size
 refine(wpIn_wide (n:=0)).2 ?_
 apply Lc 4 (M:=fun k Wc=>Wc.heap[dA]?=some (.cells #[.int .i64 (k:Int)] 3)∧But (Off (one dA) U1) U1 Wc∧(k:Int)=min (D.ax.length:Int) (max 1 many)∧Wc.heap[U1.heap.size]?=some (.deferred (some []))∧U1.heap.size<Wc.heap.size)
 ·refine vg (gf:=74) (lb:=#[.pointer (some ⟨bP,0,none⟩)]) (by simp[go_sem]) (enters_of Tryz.func74 (by kernel_rfl) rfl) (S:=one dA) ?_ (xs:=D.ax.zipIdx) (V:=RH (one dA) U1) ?_ (aaQ bP pl.cap pl.a D.ax (one dA) U1 ((ai sZ.out.xP).1 0) (fun y hy=>(oN.out.later (wW.out y hy)).rP))
   (fun c1 k Wc=>(Wc.heap[dA]?=some (.cells #[.int .i64 (k:Int)] 3)∧But (Off (one dA) U1) U1 Wc∧U1.heap.size<c1∧c1≤Wc.heap.size)∧(k=0∨(k:Int)<many))
   (fun c c1 k Wc=>c=.exit 4∧(Wc.heap[dA]?=some (.cells #[.int .i64 (k:Int)] 3)∧But (Off (one dA) U1) U1 Wc∧U1.heap.size<c1∧c1≤Wc.heap.size)∧1≤k∧k≤D.ax.length∧many≤(k:Int)∧(k=1∨(k:Int)-1<many)) ?_ ?_ ?_ ?_ ?_ ?_
  ·rintro j (rfl:j=_);omega
  ·rintro c1 q v W0 Wc ⟨rfl,_⟩;rfl
  ·intro c1 Wc h1 h2 hb
   exact⟨⟨aA hb u16,But.of_below hb,h1,h2⟩,.inl rfl⟩
  ·rintro c1 k Wc lh ⟨⟨h1,h2,h3,h4⟩,h5⟩ hb
   exact⟨⟨(hb.block _ (Array.getElem?_eq_some_iff.1 h1).1 (fun h=>by have:=h.1;omega)).trans h1,h2.trans (hb.mono fun j hj=>.inr hj.1),h3,Nat.le_trans h4 hb.size⟩,h5⟩
  ·rintro c c1 k Wc lh ⟨h0,⟨h1,h2,h3,h4⟩,h5⟩ hb
   exact⟨h0,⟨(hb.block _ (Array.getElem?_eq_some_iff.1 h1).1 (fun h=>by have:=h.1;omega)).trans h1,h2.trans (hb.mono fun j hj=>.inr hj.1),h3,Nat.le_trans h4 hb.size⟩,h5⟩
  ·rintro c1 k q v W0 Wc hx ⟨rfl,-⟩ ⟨⟨hk0,iD,hc0,lu⟩,hok⟩ hbs hc1 mZ
   have hsW:=hbs.size
   obtain⟨pq,ix⟩:=q
   obtain⟨hxk,rfl⟩:=Le hx
   have hkX:=(List.getElem?_eq_some_iff.1 hxk).1
   have hpe:D.ax[k]=pq:=(List.getElem?_eq_some_iff.1 hxk).2
   have hk1:=(hbs.block _ (Array.getElem?_eq_some_iff.1 hk0).1 (fun h=>by have:=h.1;omega)).trans hk0
   have hbu:=iD.trans (hbs.mono fun j hj=>(.inr hj.1:Off (one dA) U1 j))
   have Sz:=(Array.getElem?_eq_some_iff.1 hk1).1
   clear hx hk0 iD hbs hxk
   dsimp only
   gi_wp2
   have hal:Below Wc.heap.size Wc (Wc.alloc (.cells (az pq) 35)):=aC (Below.refl _ _) _
   refine⟨hal,fun U hU=>?_⟩
   have pR:∀j,j<Wc.heap.size→j≠U1.heap.size+1→U.heap[j]?=Wc.heap[j]?:=fun j hj hn=>(hU.block j (by simp;omega) (aT hn)).trans (hal.block j hj)
   have lW:U.heap[Wc.heap.size]?=some (.cells (az pq) 35):=(hU.block _ (by simp) (aT (by omega))).trans (World.alloc_heap_new _ _)
   have qi:Wc.heap.size<U.heap.size:=(Array.getElem?_eq_some_iff.1 lW).1
   have GZ:U.heap[dA]?=some (.cells #[.int .i64 (k:Int)] 3):=(pR _ Sz (by omega)).trans hk1
   have dU:But (Off (one dA) U1) U1 U:=(hbu.trans (But.of_below hal)).trans (hU.mono fun j (hj:j=_)=>.inr (by omega))
   have jF:=oN.out.later (wW.out U dU)
   have wQ:U.heap[w6.heap.size]?=some (.cells #[.int .i64 0] 3):=(dU.block _ (by omega) (by rintro((h:_=_)|h)<;>omega)).trans uT
   have Ah:row? U Wc.heap.size 0 10=some (az pq):=by rw[bV lW];exact dH (wY pq)
   obtain⟨bX,oX,tq,pU,-⟩:=fG.get jF.rD k hkX
   rw[hpe]at pU
   obtain⟨kc,kf,-,kl⟩:=ai GZ
   obtain⟨tc,-,-,tl⟩:=ai wQ
   obtain⟨c5,-,-,l5⟩:=ai jF.x5
   obtain⟨c8,-,-,l8⟩:=ai jF.x8
   have SC:=(c8 3).trans (IJ es ps D)
   rw[tq]at SC
   have hnl:¬D.ax.length≤k:=by omega
   have GU:(k:Int)<(D.ax.length:Int):=by omega
   have GV:bX<U.heap.size:=gq pU
   have vY:=Lib.hid hkX
   have Sm:k<50:=by have:=Lm.out;omega
   have hset:=cZ (o:=0) (.int .i64 ((k:Int)+1)) GZ
   have hX:But (fun j=>one dA j∨c1≤j) U (U.drew.setCell ⟨dA,0,none⟩ (.int .i64 ((k:Int)+1))):=(rY (S:=one dA) (But.refl _ U).drew (.inl rfl)).mono fun j hj=>.inl hj
   have HX:=Lib.hid hX
   have wR:=Lib.hid (show c1≤(U.drew.setCell ⟨dA,0,none⟩ (.int .i64 ((k:Int)+1))).heap.size by have:=hX.size;omega)
   have wS:=Lib.hid (dU.trans (hX.mono fun j hj=>hj.imp id (fun h=>by omega)):But (Off (one dA) U1) U1 _)
   have wU:=Lib.hid (show(U.drew.setCell ⟨dA,0,none⟩ (.int .i64 ((k:Int)+1))).heap[dA]?=some (.cells #[.int .i64 ((k+1:Nat):Int)] 3) by
    have h2:(U.drew.setCell ⟨dA,0,none⟩ (.int .i64 ((k:Int)+1))).heap[dA]?=(U.setCell ⟨dA,0,none⟩ (.int .i64 ((k:Int)+1))).heap[dA]?:=rfl
    rw[h2];simpa using hset)
   clear hal hU pR hbu hk1 c8 tq hX hset dU jF hpe
   gi_wp2
   refine TI.xm (fun _=>False) (But.refl _ U) (by kernel_rfl) (by kernel_rfl) (by kernel_rfl) ?_
   repeat (first|(refine TI.aP (by rfl) ?_)|(refine TI.gI (by rfl) (by rfl) (fun K hK=>?_);go_big_quiet_op;refine hK _ ?_;clear hK K))
   refine TI.bW ?_
   by_cases hma:many≤(k:Int)+1
   ·gi_wp2
    exact⟨HX.out,rfl,⟨wU.out,wS.out,hc0,wR.out⟩,by omega,by have:=vY.out;omega,by omega,by omega⟩
   ·gi_wp2
    exact⟨HX.out,⟨wU.out,wS.out,hc0,wR.out⟩,.inr (by omega)⟩
  ·rintro c1 Wc ⟨⟨h1,h2,h3,h4⟩,h5⟩ hD
   rw[List.length_zipIdx]at h1 h5
   exact⟨.inl rfl,rfl,D.ax.length,h1,h2,by omega,hD,by omega⟩
  ·rintro c c1 k Wc ⟨rfl,⟨h1,h2,h3,h4⟩,h5⟩ hD
   exact wp_exit ⟨.inr rfl,rfl,k,h1,h2,by omega,hD,by omega⟩
 ·exact fun _ _ h=>Ld h
 rintro nP Wd ⟨hN,hbW,SE,hD,hDs⟩
 have Aj:=Lib.hid (wW.out Wd hbW)
 have hTd:Wd.heap[w6.heap.size]?=some (.cells #[.int .i64 0] 3):=(hbW.block _ (by omega) (by rintro((h:_=_)|h)<;>omega)).trans uT
 have hK:Wd.heap[dF]?=some (.cells #[.int .i64 (kE:Int)] 3):=(hbW.block _ (by omega) (by rintro((h:_=_)|h)<;>omega)).trans u13
 replace mM:=(hbW.block _ (by omega) (by rintro((h:_=_)|h)<;>omega)).trans mM
 have Ak:=oN.out.later Aj.out
 clear wW sZ tC u16 u13 uT hbW Sv
 generalize SG:U1.heap.size=SH at *
 have aqn:dA<SH:=GY
 have qL:=hD
 clear SG GY hD
 clear U1
 obtain⟨kc,-,-,kl⟩:=ai hK
 obtain⟨nc,-,-,nl⟩:=ai hN
 obtain⟨tc,-,-,tl⟩:=ai hTd
 obtain⟨c5,-,-,l5⟩:=ai Ak.x5
 obtain⟨c8,-,-,l8⟩:=ai Ak.x8
 have SI:(kE:Int)=min (D.entries.length:Int) (max 1 many):=by rw[yD.out];exact GX
 clear GX
 gi_wp2
 all_goals first
  |(exfalso;rename_i hu hb;exact absurd (Option.some.inj hu) (by unfold undef;intro h;cases h))
  |skip
 have hq0:w6.heap.size≤Lr:=by omega
 have hq1:Lr<SH:=by omega
 obtain⟨V2,hV2⟩:∃V,V=Wd.alloc (.cells #[.int .i64 1] 3):=⟨_,rfl⟩
 have Ls:Below Wd.heap.size Wd V2:=by rw[hV2];exact aC (Below.refl _ _) _
 have qT:V2.heap[Wd.heap.size]?=some (.cells #[.int .i64 1] 3):=by rw[hV2];exact wM rfl
 replace mM:=aA Ls mM
 replace qL:=aA Ls qL
 rw[←hV2]
 clear hV2
 have GH:=Lib.hid (ag Aj.out Ls)
 have asr:w6.heap.size≤Wd.heap.size:=Aj.out.size
 clear kc nc tc c5 c8 kl nl tl l5 l8 SI SE hK hN hTd Ak Aj Ls aql aqn abg abf abe aba abb hDs
 generalize hBT:Wd.heap.size=BT at *
 clear hBT
 clear Wd
 rw[roundsIn_succ]
 have GI:=GH.out.size
 have ass:Lr<V2.heap.size:=(Array.getElem?_eq_some_iff.1 mM).1
 have ast:SH<V2.heap.size:=(Array.getElem?_eq_some_iff.1 qL).1
 obtain⟨qc,qf,-,ql⟩:=ai qT
 gi_wp2
 clear qc qf
 obtain⟨U0,wO⟩:∃U,U=V2.alloc (.cells #[.int .i64 0] 3):=⟨_,rfl⟩
 have sW:Below V2.heap.size V2 U0:=by rw[wO];exact aC (Below.refl _ _) _
 have u13:U0.heap[V2.heap.size]?=some (.cells #[.int .i64 0] 3):=by rw[wO];exact wM rfl
 have uT:U0.heap[BT]?=some (.cells #[.int .i64 1] 3):=aA sW qT
 rw[←wO]
 clear wO
 have pO:=Lib.hid (ag GH.out sW)
 have hs0:=sW.size
 have GK:V2.heap.size<U0.heap.size:=(Array.getElem?_eq_some_iff.1 u13).1
 replace mM:=aA sW mM
 replace qL:=aA sW qL
 generalize RY:V2.heap.size=dF at *
 have aba:w6.heap.size≤dF:=GI
 have abb:BT<dF:=ql
 clear RY GI qT
 have sZ:=Lib.hid (oN.out.later pO.out)
 have wP:=Lib.hid (show ∀y,But (Off (one dF) U0) U0 y→Below w6.heap.size w6 y from fun y hy=>((But.of_below (S:=fun j=>w6.heap.size≤j) pO.out).trans (hy.mono fun j hj=>by
  rcases hj with(hj:j=_)|hj
  ·omega
  ·have:=pO.out.size;omega)).below (Nat.le_refl _) fun j hj=>hj)
 refine(wpIn_wide (n:=0)).2 ?_
 apply Lc 2 (M:=fun k Wc=>Wc.heap[dF]?=some (.cells #[.int .i64 (k:Int)] 3)∧But (Off (one dF) U0) U0 Wc∧k=X.length∧Wc.heap[U0.heap.size]?=some (.deferred (some []))∧U0.heap.size<Wc.heap.size)
 ·refine vg (gf:=29) (lb:=#[.pointer (some ⟨bE,0,none⟩)]) (by simp[go_sem]) (enters_of Tryz.func29 (by kernel_rfl) rfl) (S:=one dF) ?_ (xs:=Y.zipIdx) (V:=RJ) ?_ (aaR bE sl Y (one dF) U0 sZ.out.xE (fun j (hj:j=_)=>by omega) (fun y hy=>(oN.out.later (wP.out y hy)).rE))
   (fun c1 k Wc=>(Wc.heap[dF]?=some (.cells #[.int .i64 (k:Int)] 3)∧But (Off (one dF) U0) U0 Wc∧U0.heap.size<c1∧c1≤Wc.heap.size)∧True)
   (fun c c1 k Wc=>c=.exit 2∧(Wc.heap[dF]?=some (.cells #[.int .i64 (k:Int)] 3)∧But (Off (one dF) U0) U0 Wc∧U0.heap.size<c1∧c1≤Wc.heap.size)∧False) ?_ ?_ ?_ ?_ ?_ ?_
  ·rintro j (rfl:j=_);omega
  ·rintro c1 q v W0 Wc ⟨r',rfl,_⟩;rfl
  ·intro c1 Wc h1 h2 hb
   exact⟨⟨aA hb u13,But.of_below hb,h1,h2⟩,trivial⟩
  ·rintro c1 k Wc lh ⟨⟨h1,h2,h3,h4⟩,h5⟩ hb
   exact⟨⟨(hb.block _ (Array.getElem?_eq_some_iff.1 h1).1 (fun h=>by have:=h.1;omega)).trans h1,h2.trans (hb.mono fun j hj=>.inr hj.1),h3,Nat.le_trans h4 hb.size⟩,h5⟩
  ·rintro c c1 k Wc lh ⟨h0,⟨h1,h2,h3,h4⟩,h5⟩ hb
   exact⟨h0,⟨(hb.block _ (Array.getElem?_eq_some_iff.1 h1).1 (fun h=>by have:=h.1;omega)).trans h1,h2.trans (hb.mono fun j hj=>.inr hj.1),h3,Nat.le_trans h4 hb.size⟩,h5⟩
  ·rintro c1 k q v W0 Wc hx ⟨r',rfl,qg⟩ ⟨⟨hk0,iD,hc0,lu⟩,-⟩ hbs hc1 mZ
   have hsW:=hbs.size
   obtain⟨⟨s0,d⟩,ix⟩:=q
   obtain⟨hxk,rfl⟩:=Le hx
   have hkY:=(List.getElem?_eq_some_iff.1 hxk).1
   have hkX:k<X.length:=by have:=Lp.out;omega
   have Af:X[k].2=d:=by
    have h1:=congrArg (fun l=>l[k]?) HYX.out
    simp only[List.getElem?_map,hxk,List.getElem?_eq_getElem hkX,Option.map_some,Option.some.injEq]at h1
    exact h1.symm
   have hk1:=(hbs.block _ (Array.getElem?_eq_some_iff.1 hk0).1 (fun h=>by have:=h.1;omega)).trans hk0
   have hbu:=iD.trans (hbs.mono fun j hj=>(.inr hj.1:Off (one dF) U0 j))
   have HD:=Lib.hid qg
   have RZ:=(Array.getElem?_eq_some_iff.1 hk1).1
   clear qg hx hk0 iD hbs hxk
   dsimp only at HD ⊢
   gi_wp2
   have hal:Below Wc.heap.size Wc (Wc.alloc (.cells (ae r' d) 32)):=aC (Below.refl _ _) _
   refine⟨hal,fun U hU=>?_⟩
   have pR:∀j,j<Wc.heap.size→j≠U0.heap.size+1→U.heap[j]?=Wc.heap[j]?:=fun j hj hn=>(hU.block j (by simp;omega) (aT hn)).trans (hal.block j hj)
   have lW:U.heap[Wc.heap.size]?=some (.cells (ae r' d) 32):=(hU.block _ (by simp) (aT (by omega))).trans (World.alloc_heap_new _ _)
   have qi:Wc.heap.size<U.heap.size:=(Array.getElem?_eq_some_iff.1 lW).1
   have GL:U.heap[dF]?=some (.cells #[.int .i64 (k:Int)] 3):=(pR _ RZ (by omega)).trans hk1
   have dU:But (Off (one dF) U0) U0 U:=(hbu.trans (But.of_below hal)).trans (hU.mono fun j (hj:j=_)=>.inr (by omega))
   have jF:=oN.out.later (wP.out U dU)
   have wQ:U.heap[BT]?=some (.cells #[.int .i64 1] 3):=(dU.block _ (by omega) (by rintro((h:_=_)|h)<;>omega)).trans uT
   have Ag:aZ U (fresh W0.heap.size Wc) (fun y=>kY W0.heap.size y r' d):=HD.out.to (fun j hj=>pR j hj.2 (by have:=hj.1;omega)) fun j hj=>hj
   have Ah:row? U Wc.heap.size 0 17=some (ae r' d):=by rw[bV lW];exact dH (by simp[go_sem])
   obtain⟨bX,oX,cs,tq,pU,q,GM,hcs⟩:=jF.rX.rows.2 k hkX
   rw[List.getElem?_eq_getElem hkX]at GM
   cases GM
   have GN:bz U X[k].1 d:=by have:=jF.rX.each _ (List.getElem_mem hkX);rwa[Af]at this
   have Si:row? U bX (oX+k*17) 17=some (ae X[k].1 d):=by rw[pU,hcs,bC,Af]
   obtain⟨kc,kf,-,kl⟩:=ai GL
   obtain⟨tc,-,-,tl⟩:=ai wQ
   obtain⟨c8,-,-,l8⟩:=ai jF.x8
   have GR:=(c8 2).trans (Eu es ps D)
   rw[tq]at GR
   have hnl:¬D.entries.length≤k:=by have:=yD.out;omega
   have GU:(k:Int)<(D.entries.length:Int):=by have:=yD.out;omega
   have Sj:k<D.entries.length:=by have:=yD.out;omega
   have GV:bX<U.heap.size:=gq pU
   have aqi:c1≤U.heap.size:=by omega
   have vY:=Lib.hid (show k<X.length from hkX)
   have Sm:k<50:=by have:=Lm.out;omega
   clear hal hU pR hbu hk1 c8 pU hcs Af tq HD
   gi_wp2
   refine TI.xm (fun _=>False) (But.refl _ U) (by kernel_rfl) (by kernel_rfl) (by kernel_rfl) ?_
   repeat (first|(refine TI.aP (by rfl) ?_)|(refine TI.gI (by rfl) (by rfl) (fun K hK=>?_);go_big_quiet_op;refine hK _ ?_;clear hK K))
   refine TI.jg (by rfl) (by rfl) (by rfl) (fun K hK=>?_)
   go_wp2_with fail
   refine(same_eq r' X[k].1 d U.drew ((Ag U (fun _ _=>rfl)).at_.later (Below.refl _ _).drew) (GN.later (Below.refl _ _).drew)).mono ?_
   rintro y U2 ⟨rfl,hb2⟩
   dsimp only
   have hbb:Below U.heap.size U U2:=(Below.refl _ U).drew.trans hb2
   refine hK _ _ (bI (But.of_below hbb)) ?_
   clear hK K
   repeat (first|(refine TI.aP (by rfl) ?_)|(refine TI.gI (by rfl) (by rfl) (fun K hK=>?_);go_big_quiet_op;refine hK _ ?_;clear hK K))
   refine TI.bW ?_
   have h13:=aA hbb GL
   have h12:=aA hbb wQ
   have h5:=aA hbb jF.x5
   have Sr:row? U2 Wc.heap.size 0 17=some (ae r' d):=by rw[fO (hbb.block _ qi)];exact Ah
   have hE2:pz (fun j=>W0.heap.size≤j) U2 r' d:=(Ag U2 fun j hj=>hbb.block j (Nat.lt_trans hj.2 qi)).toS
   have hs2:=hbb.size
   clear kc kf kl tc tl GR l8 hnl GU Sj Si GN Ah Ag lW GV jF
   gi_wp2
   refine⟨trivial,rfl,CallsIn.mono (CallsIn.inRound _ (callsIn_wide.2 (O4 (fun j=>W0.heap.size≤j) r' d U2 hE2))) ?_⟩
   rintro y U3 ⟨rfl,hb3⟩
   have t13:=(hb3.block _ (Array.getElem?_eq_some_iff.1 h13).1 (by omega)).trans h13
   have t12:=(hb3.block _ (Array.getElem?_eq_some_iff.1 h12).1 (by omega)).trans h12
   have abd:=GG.out
   have aqj:=pO.out.size
   have t5:=(hb3.block _ (Array.getElem?_eq_some_iff.1 h5).1 (by omega)).trans h5
   have hs3:=hb3.size
   obtain⟨kc,kf,-,kl⟩:=ai t13
   obtain⟨tc,-,-,tl⟩:=ai t12
   obtain⟨c5,-,-,l5⟩:=ai t5
   have hset:=cZ (o:=0) (.int .i64 ((k:Int)+1)) t13
   have hX:But (fun j=>one dF j∨c1≤j) U (U3.setCell ⟨dF,0,none⟩ (.int .i64 ((k:Int)+1))):=(((But.of_below hbb).trans (hb3.mono fun j (hj:W0.heap.size≤j)=>.inr (by omega)))).trans ((rY (S:=one dF) (But.refl _ U3) (.inl rfl)).mono fun j hj=>.inl hj)
   have HX:=Lib.hid hX
   have wR:=Lib.hid (show c1≤(U3.setCell ⟨dF,0,none⟩ (.int .i64 ((k:Int)+1))).heap.size by simp only[World.setCell,Array.size_modify];omega)
   have wS:=Lib.hid (dU.trans (hX.mono fun j hj=>hj.imp id (fun h=>by omega)):But (Off (one dF) U0) U0 _)
   have wU:=Lib.hid (show(U3.setCell ⟨dF,0,none⟩ (.int .i64 ((k:Int)+1))).heap[dF]?=some (.cells #[.int .i64 ((k+1:Nat):Int)] 3) by simpa using hset)
   clear hX hset dU h13 h12 h5 hE2 Sr hbb hb2 hb3 t13 t12 t5
   dsimp only
   gi_wp2
   exact⟨HX.out,⟨wU.out,wS.out,hc0,wR.out⟩,trivial⟩
  ·rintro c1 Wc ⟨⟨h1,h2,h3,h4⟩,h5⟩ hD
   rw[List.length_zipIdx]at h1
   refine⟨.inl rfl,rfl,Y.length,h1,h2,Lp.out,hD,by omega⟩
  ·rintro c c1 k Wc ⟨rfl,⟨h1,h2,h3,h4⟩,h5⟩ hD
   exact h5.elim
 ·exact fun _ _ h=>Ld h
 rintro kE Wc ⟨hK,hbW,GX,hD,hDs⟩
 have Ai:=Lib.hid (wP.out Wc hbW)
 have hTc:Wc.heap[BT]?=some (.cells #[.int .i64 1] 3):=(hbW.block _ (by omega) (by rintro((h:_=_)|h)<;>omega)).trans uT
 replace mM:=(hbW.block _ (by omega) (by rintro((h:_=_)|h)<;>omega)).trans mM
 replace qL:=(hbW.block _ (by omega) (by rintro((h:_=_)|h)<;>omega)).trans qL
 have abe:=pO.out.size
 clear wP sZ pO u13 uT hbW sW
 generalize hdE:U0.heap.size=dE1 at *
 have asu:dF<dE1:=GK
 have G5:=hD
 clear hdE hs0 GK hD
 clear U0
 have aqm:BT<Wc.heap.size:=(Array.getElem?_eq_some_iff.1 hTc).1
 gi_wp2
 obtain⟨U1,wV⟩:∃U,U=Wc.alloc (.cells #[.int .i64 0] 3):=⟨_,rfl⟩
 have pV:Below Wc.heap.size Wc U1:=by rw[wV];exact aC (Below.refl _ _) _
 have u16:U1.heap[Wc.heap.size]?=some (.cells #[.int .i64 0] 3):=by rw[wV];exact wM rfl
 have uT:=aA pV hTc
 have u13:=aA pV hK
 rw[←wV]
 clear wV
 have tC:=Lib.hid (ag Ai.out pV)
 have GY:Wc.heap.size<U1.heap.size:=(Array.getElem?_eq_some_iff.1 u16).1
 have abf:=Ai.out.size
 replace mM:=aA pV mM
 replace qL:=aA pV qL
 replace G5:=aA pV G5
 generalize Su:Wc.heap.size=dA at *
 clear Su hTc hK pV Ai
 clear Wc
 have sZ:=Lib.hid (oN.out.later tC.out)
 have wW:=Lib.hid (show ∀y,But (Off (one dA) U1) U1 y→Below w6.heap.size w6 y from fun y hy=>((But.of_below (S:=fun j=>w6.heap.size≤j) tC.out).trans (hy.mono fun j hj=>by
  rcases hj with(hj:j=_)|hj
  ·omega
  ·have:=tC.out.size;omega)).below (Nat.le_refl _) fun j hj=>hj)
 have Sv:=GG.out
 have abg:=tC.out.size
 refine(wpIn_wide (n:=0)).2 ?_
 apply Lc 4 (M:=fun k Wc=>Wc.heap[dA]?=some (.cells #[.int .i64 (k:Int)] 3)∧But (Off (one dA) U1) U1 Wc∧k=D.ax.length∧Wc.heap[U1.heap.size]?=some (.deferred (some []))∧U1.heap.size<Wc.heap.size)
 ·refine vg (gf:=74) (lb:=#[.pointer (some ⟨bP,0,none⟩)]) (by simp[go_sem]) (enters_of Tryz.func74 (by kernel_rfl) rfl) (S:=one dA) ?_ (xs:=D.ax.zipIdx) (V:=RH (one dA) U1) ?_ (aaQ bP pl.cap pl.a D.ax (one dA) U1 ((ai sZ.out.xP).1 0) (fun y hy=>(oN.out.later (wW.out y hy)).rP))
   (fun c1 k Wc=>(Wc.heap[dA]?=some (.cells #[.int .i64 (k:Int)] 3)∧But (Off (one dA) U1) U1 Wc∧U1.heap.size<c1∧c1≤Wc.heap.size)∧True)
   (fun c c1 k Wc=>c=.exit 4∧(Wc.heap[dA]?=some (.cells #[.int .i64 (k:Int)] 3)∧But (Off (one dA) U1) U1 Wc∧U1.heap.size<c1∧c1≤Wc.heap.size)∧False) ?_ ?_ ?_ ?_ ?_ ?_
  ·rintro j (rfl:j=_);omega
  ·rintro c1 q v W0 Wc ⟨rfl,_⟩;rfl
  ·intro c1 Wc h1 h2 hb
   exact⟨⟨aA hb u16,But.of_below hb,h1,h2⟩,trivial⟩
  ·rintro c1 k Wc lh ⟨⟨h1,h2,h3,h4⟩,h5⟩ hb
   exact⟨⟨(hb.block _ (Array.getElem?_eq_some_iff.1 h1).1 (fun h=>by have:=h.1;omega)).trans h1,h2.trans (hb.mono fun j hj=>.inr hj.1),h3,Nat.le_trans h4 hb.size⟩,h5⟩
  ·rintro c c1 k Wc lh ⟨h0,⟨h1,h2,h3,h4⟩,h5⟩ hb
   exact⟨h0,⟨(hb.block _ (Array.getElem?_eq_some_iff.1 h1).1 (fun h=>by have:=h.1;omega)).trans h1,h2.trans (hb.mono fun j hj=>.inr hj.1),h3,Nat.le_trans h4 hb.size⟩,h5⟩
  ·rintro c1 k q v W0 Wc hx ⟨rfl,-⟩ ⟨⟨hk0,iD,hc0,lu⟩,-⟩ hbs hc1 mZ
   have hsW:=hbs.size
   obtain⟨pq,ix⟩:=q
   obtain⟨hxk,rfl⟩:=Le hx
   have hkX:=(List.getElem?_eq_some_iff.1 hxk).1
   have hpe:D.ax[k]=pq:=(List.getElem?_eq_some_iff.1 hxk).2
   have hk1:=(hbs.block _ (Array.getElem?_eq_some_iff.1 hk0).1 (fun h=>by have:=h.1;omega)).trans hk0
   have hbu:=iD.trans (hbs.mono fun j hj=>(.inr hj.1:Off (one dA) U1 j))
   have Sz:=(Array.getElem?_eq_some_iff.1 hk1).1
   clear hx hk0 iD hbs hxk
   dsimp only
   gi_wp2
   have hal:Below Wc.heap.size Wc (Wc.alloc (.cells (az pq) 35)):=aC (Below.refl _ _) _
   refine⟨hal,fun U hU=>?_⟩
   have pR:∀j,j<Wc.heap.size→j≠U1.heap.size+1→U.heap[j]?=Wc.heap[j]?:=fun j hj hn=>(hU.block j (by simp;omega) (aT hn)).trans (hal.block j hj)
   have lW:U.heap[Wc.heap.size]?=some (.cells (az pq) 35):=(hU.block _ (by simp) (aT (by omega))).trans (World.alloc_heap_new _ _)
   have qi:Wc.heap.size<U.heap.size:=(Array.getElem?_eq_some_iff.1 lW).1
   have GZ:U.heap[dA]?=some (.cells #[.int .i64 (k:Int)] 3):=(pR _ Sz (by omega)).trans hk1
   have dU:But (Off (one dA) U1) U1 U:=(hbu.trans (But.of_below hal)).trans (hU.mono fun j (hj:j=_)=>.inr (by omega))
   have jF:=oN.out.later (wW.out U dU)
   have wQ:U.heap[BT]?=some (.cells #[.int .i64 1] 3):=(dU.block _ (by omega) (by rintro((h:_=_)|h)<;>omega)).trans uT
   have Ah:row? U Wc.heap.size 0 10=some (az pq):=by rw[bV lW];exact dH (wY pq)
   obtain⟨bX,oX,tq,pU,-⟩:=fG.get jF.rD k hkX
   rw[hpe]at pU
   obtain⟨kc,kf,-,kl⟩:=ai GZ
   obtain⟨tc,-,-,tl⟩:=ai wQ
   obtain⟨c5,-,-,l5⟩:=ai jF.x5
   obtain⟨c8,-,-,l8⟩:=ai jF.x8
   have SC:=(c8 3).trans (IJ es ps D)
   rw[tq]at SC
   have hnl:¬D.ax.length≤k:=by omega
   have GU:(k:Int)<(D.ax.length:Int):=by omega
   have GV:bX<U.heap.size:=gq pU
   have vY:=Lib.hid hkX
   have Sm:k<50:=by have:=Lm.out;omega
   have hset:=cZ (o:=0) (.int .i64 ((k:Int)+1)) GZ
   have hX:But (fun j=>one dA j∨c1≤j) U (U.drew.setCell ⟨dA,0,none⟩ (.int .i64 ((k:Int)+1))):=(rY (S:=one dA) (But.refl _ U).drew (.inl rfl)).mono fun j hj=>.inl hj
   have HX:=Lib.hid hX
   have wR:=Lib.hid (show c1≤(U.drew.setCell ⟨dA,0,none⟩ (.int .i64 ((k:Int)+1))).heap.size by have:=hX.size;omega)
   have wS:=Lib.hid (dU.trans (hX.mono fun j hj=>hj.imp id (fun h=>by omega)):But (Off (one dA) U1) U1 _)
   have wU:=Lib.hid (show(U.drew.setCell ⟨dA,0,none⟩ (.int .i64 ((k:Int)+1))).heap[dA]?=some (.cells #[.int .i64 ((k+1:Nat):Int)] 3) by
    have h2:(U.drew.setCell ⟨dA,0,none⟩ (.int .i64 ((k:Int)+1))).heap[dA]?=(U.setCell ⟨dA,0,none⟩ (.int .i64 ((k:Int)+1))).heap[dA]?:=rfl
    rw[h2];simpa using hset)
   clear hal hU pR hbu hk1 c8 tq hX hset dU jF hpe
   gi_wp2
   refine TI.xm (fun _=>False) (But.refl _ U) (by kernel_rfl) (by kernel_rfl) (by kernel_rfl) ?_
   repeat (first|(refine TI.aP (by rfl) ?_)|(refine TI.gI (by rfl) (by rfl) (fun K hK=>?_);go_big_quiet_op;refine hK _ ?_;clear hK K))
   refine TI.bW ?_
   gi_wp2
   exact⟨HX.out,⟨wU.out,wS.out,hc0,wR.out⟩,trivial⟩
  ·rintro c1 Wc ⟨⟨h1,h2,h3,h4⟩,h5⟩ hD
   rw[List.length_zipIdx]at h1
   exact⟨.inl rfl,rfl,D.ax.length,h1,h2,rfl,hD,by omega⟩
  ·rintro c c1 k Wc ⟨rfl,⟨h1,h2,h3,h4⟩,h5⟩ hD
   exact h5.elim
 ·exact fun _ _ h=>Ld h
 rintro nP Wd ⟨hN,hbW,SE,hD,hDs⟩
 have Aj:=Lib.hid (wW.out Wd hbW)
 have hTd:Wd.heap[BT]?=some (.cells #[.int .i64 1] 3):=(hbW.block _ (by omega) (by rintro((h:_=_)|h)<;>omega)).trans uT
 have hK:Wd.heap[dF]?=some (.cells #[.int .i64 (kE:Int)] 3):=(hbW.block _ (by omega) (by rintro((h:_=_)|h)<;>omega)).trans u13
 replace mM:=(hbW.block _ (by omega) (by rintro((h:_=_)|h)<;>omega)).trans mM
 replace qL:=(hbW.block _ (by omega) (by rintro((h:_=_)|h)<;>omega)).trans qL
 replace G5:=(hbW.block _ (by omega) (by rintro((h:_=_)|h)<;>omega)).trans G5
 have Ak:=oN.out.later Aj.out
 clear wW sZ tC u16 u13 uT hbW Sv
 generalize SG:U1.heap.size=dP1 at *
 have asv:dA<dP1:=GY
 have aqs:=hD
 clear SG GY hD
 clear U1
 obtain⟨kc,-,-,kl⟩:=ai hK
 obtain⟨nc,-,-,nl⟩:=ai hN
 obtain⟨tc,-,-,tl⟩:=ai hTd
 obtain⟨c5,-,-,l5⟩:=ai Ak.x5
 obtain⟨c8,-,-,l8⟩:=ai Ak.x8
 have SI:kE=D.entries.length:=by rw[yD.out];exact GX
 clear GX
 subst SI SE
 gi_wp2
 all_goals first
  |(exfalso;rename_i hu hb;exact absurd (Option.some.inj hu) (by unfold undef;intro h;cases h))
  |skip
 rw[roundsIn_succ]
 gi_wp2
 have hbZ:=aC (Below.refl _ Wd) (.cells #[.int .i64 2] 3)
 refine⟨trivial,rfl,(callsIn_wide.2 (RG _)).mono ?_⟩
 rintro y wf ⟨rfl,hbf⟩
 have DF:=ag hbZ hbf
 have h6f:=aA DF Ak.x6
 have f0:=aA DF mM
 have f1:=aA DF qL
 have f2:=aA DF G5
 have f3:=aA DF aqs
 obtain⟨rc,rf,rr,rl⟩:=ai h6f
 have hBf:Below w.heap.size w wf:=ag (ag Ip Aj.out) DF
 have abd:=GG.out
 have asw:=Ip.size
 dsimp only
 gi_wp2
 refine ap8 (v:=.bool true) (T:=w.heap.size+2) f3 f2 f1 f0 h6f (by omega) (by omega) (by omega) (by omega) (by omega) (by omega) (by omega) (by omega) (by omega) (by omega) (fun X hX=>by simp[results,Tryz.f3,go_sem,hX]) ⟨rfl,?_⟩
 exact ap9 hBf (by omega) (by omega) (by omega) (by omega) (by omega)
end Go.Proofs.YtaghcadlgbnbdaaGreatDoor
