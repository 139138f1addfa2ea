/- A part of the proof. -/
import Derived.Test.YtpfifochimkpfaaGreatDoorA07
import Derived.Test.YtpfifochimkpfaaGreatDoorA05
import Derived.OwnWalk
import Derived.Test.YtpfifochimkpfaaGreatDoorA03
import Derived.Test.YtpfifochimkpfaaGreatDoorA06
set_option maxRecDepth 100000
set_option maxHeartbeats 4000000
namespace Go.WW
theorem Q9{d:Entry}{p:ah}(now:Int)(h:¬(0<p.fails∧p.fails≤d.fails)):countOf d p now=if(decide (0<p.window)&&decide (d.dw+p.window<now))=true then 0 else d.fails:=by
 rw[countOf,if_neg h];simp
theorem acT{d:Entry}{p:ah}(now:Int)(h:0<p.fails∧p.fails≤d.fails):countOf d p now=if(decide (0<p.lock)&&decide (d.dw+p.lock≤now))=true then 0 else d.fails:=by
 rw[countOf,if_pos h];simp
end Go.WW
namespace Go.Proofs.YtpfifochimkpfaaGreatDoor
open Go.RowKit Go.WW
theorem JW(r:aK)(d:Entry)(p:ah)(now:Int)(w:World)(hs:Small d p) :
  Calls Tryz.prog 59 #[.agg (aY r d p),.int .i64 now] w fun e w'=>e=.returned (.int .i64 (countOf d p now))∧Below w.heap.size w w':=by
 obtain⟨l0,l1,f0,f1,w0,w1,k0,k1,m0⟩:=hs
 obtain⟨V1,hV1⟩:∃v,v=Value.func (.func 109) #[] #[.pointer (some ⟨w.heap.size,0,none⟩),.pointer (some ⟨w.heap.size+1,0,none⟩)]:=⟨_,rfl⟩
 obtain⟨V2,hV2⟩:∃v,v=Value.func (.func 111) #[] #[.pointer (some ⟨w.heap.size,0,none⟩),.pointer (some ⟨w.heap.size+1,0,none⟩)]:=⟨_,rfl⟩
 have hm1:(((w.alloc (.cells (aY r d p) 86)).alloc (.cells #[.int .i64 now] 3)).alloc (.map #[] 0)).heap[w.heap.size+2]?=some (.map #[] 0):=by
  have:=World.alloc_heap_new ((w.alloc (.cells (aY r d p) 86)).alloc (.cells #[.int .i64 now] 3)) (.map #[] 0)
  simpa using this
 have hi1:=CE (P:=Tryz.prog) V1 Tryz.underlying162 Tryz.underlying4 (k:=.bool true) trivial (by rfl) hm1
 have hm2:((((w.alloc (.cells (aY r d p) 86)).alloc (.cells #[.int .i64 now] 3)).alloc (.map #[] 0)).putObj (w.heap.size+2) (.map #[{key:=.bool true,val:=V1,born:=0}] 1)).heap[w.heap.size+2]?=some (.map #[{key:=.bool true,val:=V1,born:=0}] 1):=World.putObj_heap_same (by simp)
 have hi2:=CE (P:=Tryz.prog) V2 Tryz.underlying162 Tryz.underlying4 (k:=.bool false) trivial (by rfl) hm2
 obtain⟨W3,hW3⟩:∃W,((((w.alloc (.cells (aY r d p) 86)).alloc (.cells #[.int .i64 now] 3)).alloc (.map #[] 0)).putObj (w.heap.size+2) (.map #[{key:=.bool true,val:=V1,born:=0}] 1)).putObj (w.heap.size+2) (.map #[{key:=.bool true,val:=V1,born:=0},{key:=.bool false,val:=V2,born:=1}] 2)=W:=⟨_,rfl⟩
 have tH:W3.heap[w.heap.size+2]?=some (.map #[{key:=.bool true,val:=V1,born:=0},{key:=.bool false,val:=V2,born:=1}] 2):=by rw[←hW3];exact World.putObj_heap_same (by simp)
 simp only[List.push_toArray,List.nil_append,List.cons_append,Nat.zero_add,Nat.reduceAdd]at hi1 hi2
 rw[hW3]at hi2
 have hB3:Below (w.heap.size+2) ((w.alloc (.cells (aY r d p) 86)).alloc (.cells #[.int .i64 now] 3)) W3:=by
  rw[←hW3]
  exact((Below.refl _ _).alloc (by simp) _).grown (grownBy_putObj' _ _ _) (by simp) (fun k e=>by cases e;omega) |>.grown (grownBy_putObj' _ _ _) (by simp) (fun k e=>by cases e;omega)
 have hsz3:w.heap.size+2<W3.heap.size:=(Array.getElem?_eq_some_iff.1 tH).1
 have am6:w.heap.size<W3.heap.size:=by omega
 have g1:W3.cell? ⟨w.heap.size,25,none⟩=some (.int .i64 p.window):=(hB3.cell (p:=⟨w.heap.size,25,none⟩) (by simp)).trans (by simp[go_sem])
 have g2:W3.cell? ⟨w.heap.size,26,none⟩=some (.int .i64 p.lock):=(hB3.cell (p:=⟨w.heap.size,26,none⟩) (by simp)).trans (by simp[go_sem])
 have g3:W3.cell? ⟨w.heap.size,12,none⟩=some (.int .i64 d.dw):=(hB3.cell (p:=⟨w.heap.size,12,none⟩) (by simp)).trans (by simp[go_sem])
 have g4:W3.cell? ⟨w.heap.size,11,none⟩=some (.int .i64 d.fails):=(hB3.cell (p:=⟨w.heap.size,11,none⟩) (by simp)).trans (by simp[go_sem])
 have g5:W3.cell? ⟨w.heap.size+1,0,none⟩=some (.int .i64 now):=(hB3.cell (p:=⟨w.heap.size+1,0,none⟩) (by simp)).trans (by simp[go_sem])
 have hBw:Below w.heap.size w W3:=(((Below.refl _ w).alloc (Nat.le_refl _) _).alloc (by simp) _).trans (hB3.mono (by omega))
 have hmm:=@run_makeMap Tryz.prog
 go_enter Tryz.func59,Tryz.ntmps59
 subst hV1 hV2
 by_cases c1:p.fails=0
 ·have c1':(p.fails != 0)=false:=by simp[c1]
  obtain⟨c,hc⟩:∃c,(decide (0<p.window)&&decide (d.dw+p.window<now))=c:=⟨_,rfl⟩
  have HN:=Lib.hid (hc▸Q9 (d:=d) (p:=p) now (by omega))
  clear c1
  have hlk:∀x:Later W3,(Instr.lookup 162 (.map (some (w.heap.size+2))) (.bool false) false).run Tryz.prog x.w=.ok (Value.func (.func 111) #[] #[.pointer (some ⟨w.heap.size,0,none⟩),.pointer (some ⟨w.heap.size+1,0,none⟩)]) x.w:=fun x=>
   JV Tryz.underlying162 Tryz.underlying4 trivial (by rfl) ((x.b.block _ (Array.getElem?_eq_some_iff.1 tH).1).trans tH)
  go_wp2_with fail
  refine dN (Below.refl _ W3) (by kernel_rfl) (by kernel_rfl) ?_
  repeat (go_big_quiet_step (first|(go_at_call 111;rename_i xw;exact Calls.iq (hc▸Q8 _ now d.dw p.window _ ((xw.b.cell (p:=⟨w.heap.size,25,none⟩) (by simp;omega)).trans g1) ((xw.b.cell (p:=⟨w.heap.size,12,none⟩) (by simp;omega)).trans g3) ((xw.b.cell (p:=⟨w.heap.size+1,0,none⟩) (by simp;omega)).trans g5) ⟨l0,l1⟩ ⟨w0,w1⟩))|(go_at_call 60;exact Calls.uS (yj _ _ _ _))))
  refine wpQuiet_nil ?_
  intro w2 hb2
  cases c
  all_goals go_wp2_with fail
  all_goals go_ret
  all_goals exact⟨by rw[HN.out];rfl,hBw.trans (hb2.mono (by omega))⟩
 have c1':(p.fails != 0)=true:=by simp[c1]
 by_cases c2:p.fails≤d.fails
 ·obtain⟨c,hc⟩:∃c,(decide (0<p.lock)&&decide (d.dw+p.lock≤now))=c:=⟨_,rfl⟩
  have HN:=Lib.hid (hc▸acT (d:=d) (p:=p) now ⟨by omega,c2⟩)
  have c2':decide (p.fails≤d.fails)=true:=by simp[c2]
  clear c1
  have hlk:∀x:Later W3,(Instr.lookup 162 (.map (some (w.heap.size+2))) (.bool true) false).run Tryz.prog x.w=.ok (Value.func (.func 109) #[] #[.pointer (some ⟨w.heap.size,0,none⟩),.pointer (some ⟨w.heap.size+1,0,none⟩)]) x.w:=fun x=>
   JV Tryz.underlying162 Tryz.underlying4 trivial (by rfl) ((x.b.block _ (Array.getElem?_eq_some_iff.1 tH).1).trans tH)
  go_wp2_with fail
  refine dN (Below.refl _ W3) (by kernel_rfl) (by kernel_rfl) ?_
  repeat (go_big_quiet_step (first|(go_at_call 109;rename_i xw;exact Calls.iq (hc▸acS _ now d.dw p.lock _ ((xw.b.cell (p:=⟨w.heap.size,26,none⟩) (by simp;omega)).trans g2) ((xw.b.cell (p:=⟨w.heap.size,12,none⟩) (by simp;omega)).trans g3) ((xw.b.cell (p:=⟨w.heap.size+1,0,none⟩) (by simp;omega)).trans g5) ⟨l0,l1⟩ ⟨k0,k1⟩))|(go_at_call 60;exact Calls.uS (yj _ _ _ _))))
  refine wpQuiet_nil ?_
  intro w2 hb2
  cases c
  all_goals go_wp2_with fail
  all_goals go_ret
  all_goals exact⟨by rw[HN.out];rfl,hBw.trans (hb2.mono (by omega))⟩
 ·obtain⟨c,hc⟩:∃c,(decide (0<p.window)&&decide (d.dw+p.window<now))=c:=⟨_,rfl⟩
  have HN:=Lib.hid (hc▸Q9 (d:=d) (p:=p) now (fun h=>c2 h.2))
  have c2':decide (p.fails≤d.fails)=false:=by simp[c2]
  clear c1
  have hlk:∀x:Later W3,(Instr.lookup 162 (.map (some (w.heap.size+2))) (.bool false) false).run Tryz.prog x.w=.ok (Value.func (.func 111) #[] #[.pointer (some ⟨w.heap.size,0,none⟩),.pointer (some ⟨w.heap.size+1,0,none⟩)]) x.w:=fun x=>
   JV Tryz.underlying162 Tryz.underlying4 trivial (by rfl) ((x.b.block _ (Array.getElem?_eq_some_iff.1 tH).1).trans tH)
  go_wp2_with fail
  refine dN (Below.refl _ W3) (by kernel_rfl) (by kernel_rfl) ?_
  repeat (go_big_quiet_step (first|(go_at_call 111;rename_i xw;exact Calls.iq (hc▸Q8 _ now d.dw p.window _ ((xw.b.cell (p:=⟨w.heap.size,25,none⟩) (by simp;omega)).trans g1) ((xw.b.cell (p:=⟨w.heap.size,12,none⟩) (by simp;omega)).trans g3) ((xw.b.cell (p:=⟨w.heap.size+1,0,none⟩) (by simp;omega)).trans g5) ⟨l0,l1⟩ ⟨w0,w1⟩))|(go_at_call 60;exact Calls.uS (yj _ _ _ _))))
  refine wpQuiet_nil ?_
  intro w2 hb2
  cases c
  all_goals go_wp2_with fail
  all_goals go_ret
  all_goals exact⟨by rw[HN.out];rfl,hBw.trans (hb2.mono (by omega))⟩
theorem yA(r:aK)(d:Entry)(p:ah)(now:Int)(w:World)(hs:Small d p) :
  Calls Tryz.prog 38 #[.agg (aY r d p),.int .i64 now] w fun e w'=>e=.returned (.bool (fZ d p now))∧Below w.heap.size w w':=by
 have m0:=hs.m0
 go_enter Tryz.func38,Tryz.ntmps38
 have hB:Below w.heap.size w (w.alloc (.cells (aY r d p) 86)):=(Below.refl _ _).alloc (Nat.le_refl _) _
 by_cases h0:p.fails=0
 ·have h0':(p.fails != 0)=false:=by simp[h0]
  have HN:=Lib.hid (show fZ d p now=false by rw[fZ,decide_eq_false (by omega)];rfl)
  clear h0 m0
  go_wp2_with fail
  refine dN (Below.refl _ (w.alloc (.cells (aY r d p) 86))) (by kernel_rfl) (by kernel_rfl) ?_
  repeat (go_big_quiet_step (fail))
  refine wpQuiet_nil ?_
  intro w2 hb2
  go_wp2_with fail
  go_ret
  exact⟨by rw[HN.out];rfl,hB.trans (hb2.mono (by simp))⟩
 ·have h0':(p.fails != 0)=true:=by simp[h0]
  have HN:=Lib.hid (show fZ d p now=decide (p.fails≤countOf d p now) by rw[fZ,decide_eq_true (p:=0<p.fails) (by omega)];rfl)
  clear h0 m0
  go_wp2_with fail
  refine dN (Below.refl _ (w.alloc (.cells (aY r d p) 86))) (by kernel_rfl) (by kernel_rfl) ?_
  repeat (go_big_quiet_step ((go_at_call 59;exact Calls.iq (JW _ _ _ _ _ hs))))
  refine wpQuiet_nil ?_
  intro w2 hb2
  go_wp2_with fail
  go_ret
  exact⟨by rw[HN.out];rfl,hB.trans (hb2.mono (by simp))⟩
theorem Rf(v most:Int)(B:Nat)(w:World)(h:w.cell? ⟨B,0,none⟩=some (.int .i64 most)):Calls Tryz.prog 115 #[.int .i64 v,.pointer (some ⟨B,0,none⟩)] w fun e w'=>e=.returned (.bool (aC v 0 most))∧w=w':=by
 go_enter Tryz.func115,Tryz.ntmps115
 go_wp2_with (go_at_call 116;refine(wS _ _ _ _).mono ?_;rintro e w' ⟨rfl,rfl⟩)
 go_ret
 exact⟨rfl,rfl⟩
theorem acU(b o cap B:Nat)(most:Int)(l:List Int)(w:World)(hl:pU w (some ⟨b,o,none⟩) l)(hB:w.cell? ⟨B,0,none⟩=some (.int .i64 most)) :
  Calls Tryz.prog 114 #[.slice (some ⟨b,o,none⟩) l.length cap,.int .i64 l.length,.func (.func 115) #[] #[.pointer (some ⟨B,0,none⟩)]] w fun e w'=>e=.returned (.bool (l.all (fun v=>aC v 0 most)))∧w=w':=by
 have hn':l.length≤4294967000:=hl.1
 go_enter Tryz.func114,Tryz.ntmps114
 go_wp2_with fail
 go_loop [15] (fun i=>∃k:Nat,k≤l.length∧i=.int .i64 k∧Hid ((l.take k).all (fun v=>aC v 0 most)=true)) (fun i=>l.length-(intOf i).toNat)
 case atStart=>exact⟨0,Nat.zero_le _,rfl,by simp[Hid]⟩
 case round=>
  obtain⟨k,hk,rfl,hall⟩:=hrel
  by_cases hlt:k<l.length
  ·have hc:=hl.at k hlt
   have hb:b<w.heap.size:=World.block_lt_of_cell? w _ hc
   cases hv:aC l[k] 0 most
   ·have HN:=Lib.hid (qK (p:=fun v=>aC v 0 most) l k hlt hv)
    go_wp2_with (go_at_call 115;refine(Rf _ _ _ _ hB).mono ?_;rintro e w' ⟨rfl,rfl⟩;rw[hv])
    go_ret
    exact⟨by rw[HN.out];rfl,rfl⟩
   ·have HN:=Lib.hid (lu (p:=fun v=>aC v 0 most) l k hlt hall.out hv)
    go_wp2_with (go_at_call 115;refine(Rf _ _ _ _ hB).mono ?_;rintro e w' ⟨rfl,rfl⟩;rw[hv])
    go_round
    case rel=>exact⟨k+1,by omega,by go_num,HN.out⟩
    case measure=>simp[intOf];omega
  ·have HN:=Lib.hid (qL (p:=fun v=>aC v 0 most) l k (by omega) hall.out)
   go_wp2_with fail
   go_ret
   exact⟨by rw[HN.out];rfl,rfl⟩
theorem FD(b o cap:Nat)(most:Int)(l:List Int)(w:World)(hl:pU w (some ⟨b,o,none⟩) l) :
  Calls Tryz.prog 113 #[.int .i64 most,.slice (some ⟨b,o,none⟩) l.length cap] w fun e w'=>e=.returned (.bool (l.all (fun v=>aC v 0 most)))∧Below w.heap.size w w':=by
 have hB:Below w.heap.size w (w.alloc (.cells #[.int .i64 most] 3)):=(Below.refl _ _).alloc (Nat.le_refl _) _
 have hl':=hl.later hB
 go_enter Tryz.func113,Tryz.ntmps113
 go_wp2_with (go_at_call 114;refine(acU _ _ _ _ most _ _ hl' (by simp[go_sem])).mono ?_;rintro e w' ⟨rfl,rfl⟩)
 go_ret
 exact⟨rfl,hB⟩
end Go.Proofs.YtpfifochimkpfaaGreatDoor
namespace Go.WW
def o6(c:UInt8):Bool:=(c.toNat:Int) == 47 || (c.toNat:Int) == 64 || (c.toNat:Int) == 92
def lC(c:UInt8):List UInt8:=if o6 c then [92,c]else [c]
def esc(l:List UInt8):List UInt8:=l.flatMap lC
def lF(l:List ByteArray):List UInt8:=l.flatMap fun q=>47::esc q.data.toList
def iP:List ByteArray→List UInt8
 | []=>[]
 |p::ps=>esc p.data.toList++lF ps
def qR(p:aH):List UInt8:=iP p.parts++64::p.aJ.data.toList
def textOf(p:aH):ByteArray:=⟨(qR p).toArray⟩
theorem JX:esc []=[]:=rfl
theorem AA(c:UInt8)(l:List UInt8):esc (c::l)=lC c++esc l:=rfl
theorem wX(l:List UInt8)(c:UInt8):esc (l++[c])=esc l++lC c:=by simp[esc]
theorem acV(l:List ByteArray)(q:ByteArray):iP (l++[q])=(if l.length=0 then []else iP l++[47])++esc q.data.toList:=by
 cases l with
 |nil=>simp[iP,lF]
 |cons p ps=>simp[iP,lF]
def FH:List UInt8→Prop
 | []=>False
 |c::_=>c=47∨c=64
theorem Rh:o6 47=true:=by decide
theorem Ri:o6 64=true:=by decide
theorem Rj:o6 92=true:=by decide
theorem FI:∀(p q x y:List UInt8),FH x→FH y→esc p++x=esc q++y→p=q∧x=y
 | [],[],x,y,_,_,h=>⟨rfl,by simpa[esc]using h⟩
 | [],d::q,x,y,hx,_,h=>by
  exfalso
  rw[JX,List.nil_append,AA]at h
  cases x with
  |nil=>exact hx
  |cons a x=>
   unfold lC at h
   split at h
   ·simp only[List.cons_append,List.cons.injEq]at h
    rcases hx with e|e<;>rw[e]at h<;>simp at h
   ·rename_i hs
    simp only[List.cons_append,List.cons.injEq]at h
    rcases hx with e|e<;>rw[←h.1,e]at hs
    ·exact hs Rh
    ·exact hs Ri
 |c::p,[],x,y,hx,hy,h=>by
  exfalso
  rw[JX,List.nil_append,AA]at h
  cases y with
  |nil=>exact hy
  |cons a y=>
   unfold lC at h
   split at h
   ·simp only[List.cons_append,List.cons.injEq]at h
    rcases hy with e|e<;>rw[e]at h<;>simp at h
   ·rename_i hs
    simp only[List.cons_append,List.cons.injEq]at h
    rcases hy with e|e<;>rw[h.1,e]at hs
    ·exact hs Rh
    ·exact hs Ri
 |c::p,d::q,x,y,hx,hy,h=>by
  rw[AA,AA]at h
  unfold lC at h
  split at h<;>split at h
  ·simp only[List.cons_append,List.cons.injEq,List.nil_append,true_and]at h
   obtain⟨rfl,h⟩:=h
   obtain⟨rfl,rfl⟩:=FI p q x y hx hy h
   exact⟨rfl,rfl⟩
  ·rename_i h1 h2
   simp only[List.cons_append,List.cons.injEq]at h
   rw[←h.1]at h2
   exact absurd Rj h2
  ·rename_i h1 h2
   simp only[List.cons_append,List.cons.injEq]at h
   rw[h.1]at h1
   exact absurd Rj h1
  ·simp only[List.cons_append,List.cons.injEq,List.nil_append]at h
   obtain⟨rfl,h⟩:=h
   obtain⟨rfl,rfl⟩:=FI p q x y hx hy h
   exact⟨rfl,rfl⟩
theorem FK(ps:List ByteArray)(r:List UInt8):FH (lF ps++64::r):=by
 cases ps<;>simp[lF,FH]
theorem JY{a b:ByteArray}(h:a.data.toList=b.data.toList):a=b:=by
 cases a;cases b;congr;exact Array.ext' h
theorem Rk:∀(ps qs:List ByteArray) (r s:List UInt8),lF ps++64::r=lF qs++64::s→ps=qs∧r=s
 | [],[],r,s,h=>⟨rfl,by simpa[lF]using h⟩
 | [],q::qs,r,s,h=>by exfalso;simp[lF]at h
 |p::ps,[],r,s,h=>by exfalso;simp[lF]at h
 |p::ps,q::qs,r,s,h=>by
  have e:∀(p:ByteArray) ps r,lF (p::ps)++64::r=47::(esc p.data.toList++(lF ps++64::r)):=fun p ps r=>by simp[lF]
  rw[e,e]at h
  simp only[List.cons.injEq,true_and]at h
  obtain⟨h1,h2⟩:=FI _ _ _ _ (FK ps r) (FK qs s) h
  obtain⟨rfl,rfl⟩:=Rk ps qs r s h2
  exact⟨by rw[JY h1],rfl⟩
theorem acW{p q:aH}(hp:p.parts≠[])(hq:q.parts≠[])(h:qR p=qR q):p.parts=q.parts∧p.aJ=q.aJ:=by
 obtain⟨pp,pr⟩:=p
 obtain⟨qp,qr⟩:=q
 cases pp with
 |nil=>exact absurd rfl hp
 |cons a ps=>
  cases qp with
  |nil=>exact absurd rfl hq
  |cons b qs=>
   simp only[qR,iP,List.append_assoc]at h
   obtain⟨h1,h2⟩:=FI _ _ _ _ (FK ps _) (FK qs _) h
   obtain⟨rfl,h3⟩:=Rk _ _ _ _ h2
   exact⟨by rw[JY h1],JY h3⟩
theorem JZ{p q:aH}(hp:p.parts≠[])(hq:q.parts≠[]):textOf p=textOf q↔bD p q=true:=by
 simp only[bD,Bool.and_eq_true,decide_eq_true_eq]
 constructor
 ·intro h
  have:qR p=qR q:=by
   have:=congrArg (fun b:ByteArray=>b.data.toList) h
   simpa[textOf]using this
  exact(acW hp hq this).symm
 ·rintro⟨h1,h2⟩
  unfold textOf qR;rw[h1,h2]
theorem tJ{p:aH}(h:aZ p=true):p.parts≠[]:=by
 rintro e
 simp[aZ,e]at h
def AB(acc:List ByteArray)(s:ByteArray):Bool:=acc.any fun x=>decide (x=s)
theorem FM(acc:List ByteArray)(s:ByteArray):AB acc s=true↔s∈acc:=by simp[AB]
def addKey(acc:List ByteArray)(s:ByteArray):List ByteArray:=if AB acc s then acc else acc++[s]
def keysOf(l:List ByteArray):List ByteArray:=l.foldl addKey []
theorem acX(l:List ByteArray)(s:ByteArray):keysOf (l++[s])=addKey (keysOf l) s:=by simp[keysOf]
theorem acY(acc:List ByteArray)(s:ByteArray):(addKey acc s).length≤acc.length+1:=by unfold addKey;split<;>simp
theorem J3:∀(l acc:List ByteArray),(l.foldl addKey acc).length≤acc.length+l.length
 | [],acc=>by simp
 |s::l,acc=>by
  rw[List.foldl_cons,List.length_cons]
  have:=J3 l (addKey acc s)
  have:=acY acc s
  omega
theorem Rl:∀(l acc:List ByteArray),acc.Nodup→((l.foldl addKey acc).length=acc.length+l.length↔(acc++l).Nodup)
 | [],acc,h=>by simp[h]
 |s::l,acc,h=>by
  rw[List.foldl_cons,List.length_cons]
  by_cases hs:s∈acc
  ·have e:addKey acc s=acc:=by rw[addKey,(FM acc s).2 hs];rfl
   rw[e]
   have:=J3 l acc
   constructor
   ·intro h';omega
   ·intro h'
    exfalso
    rw[List.nodup_append]at h'
    exact h'.2.2 s hs s (by simp) rfl
  ·have e:addKey acc s=acc++[s]:=by rw[addKey,if_neg (fun h'=>hs ((FM acc s).1 h'))]
   rw[e]
   have hn:(acc++[s]).Nodup:=by
    rw[List.nodup_append]
    refine⟨h,by simp,?_⟩
    intro a ha b hb
    simp at hb;subst hb
    rintro rfl;exact hs ha
   have ih:=Rl l (acc++[s]) hn
   rw[List.length_append,List.length_singleton,List.append_assoc,List.singleton_append]at ih
   rw[←ih]
   omega
theorem acZ(l:List ByteArray):(keysOf l).length≤l.length:=by have:=J3 l [];simpa[keysOf]using this
def vk(l:List aH):Bool:=decide (((keysOf (l.map textOf)).length:Int)=(l.length:Int))
theorem J4(l:List aH):vk l=true↔(l.map textOf).Nodup:=by
 have:=Rl (l.map textOf) [] List.nodup_nil
 simp only[List.length_nil,List.length_map,Nat.zero_add,List.nil_append]at this
 rw[←this,vk,decide_eq_true_eq,keysOf]
 omega
theorem AL{p q:aH}:bD p q=true↔p=q:=by
 obtain⟨a,b⟩:=p;obtain⟨c,d⟩:=q
 simp only[bD,Bool.and_eq_true,decide_eq_true_eq,aH.mk.injEq]
 exact And.comm
theorem FN{l:List aH}(h:l.all aZ=true):(l.map textOf).Nodup↔l.Nodup:=by
 induction l with
 |nil=>simp
 |cons p l ih=>
  simp only[List.all_cons,Bool.and_eq_true]at h
  rw[List.map_cons,List.nodup_cons,List.nodup_cons,ih h.2]
  have:textOf p∈l.map textOf↔p∈l:=by
   rw[List.mem_map]
   constructor
   ·rintro⟨q,hq,e⟩
    have hq':aZ q=true:=List.all_eq_true.1 h.2 q hq
    rw[←AL.1 ((JZ (tJ hq') (tJ h.1)).1 e)];exact hq
   ·intro hp;exact⟨p,hp,rfl⟩
  rw[this]
theorem Rn(l:List aH):yz l=true↔l.all aZ=true∧l.Nodup:=by
 simp only[yz,List.all_eq_true,List.mem_range]
 constructor
 ·intro h
  refine⟨fun p hp=>?_,?_⟩
  ·obtain⟨i,hi,rfl⟩:=List.mem_iff_getElem.1 hp
   have:=h i hi
   simp only[oD,List.getElem?_eq_getElem hi,Bool.and_eq_true]at this
   exact this.1
  ·rw[List.nodup_iff_pairwise_ne,List.pairwise_iff_getElem]
   intro i j hi hj hij e
   have:=h j hj
   simp only[oD,List.getElem?_eq_getElem hj,Bool.and_eq_true,List.all_eq_true]at this
   have h2:=this.2 l[i] (by rw[List.mem_iff_getElem];exact⟨i,by simp;omega,by simp⟩)
   rw[AL.2 e]at h2
   simp at h2
 ·rintro⟨h1,h2⟩ i hi
  simp only[oD,List.getElem?_eq_getElem hi,Bool.and_eq_true,List.all_eq_true]
  refine⟨h1 _ (List.getElem_mem hi),fun q hq=>?_⟩
  obtain⟨k,hk,rfl⟩:=List.mem_iff_getElem.1 hq
  rw[List.nodup_iff_pairwise_ne,List.pairwise_iff_getElem]at h2
  simp only[List.length_take]at hk
  have hne:=h2 k i (by omega) hi (by omega)
  rw[List.getElem_take]
  cases hs:bD l[k] l[i]with
  |false=>rfl
  |true=>exact absurd (AL.1 hs) hne
theorem ac0(l:List aH):(decide ((l.length:Int)≤16)&&l.all aZ&&vk l)=different l:=by
 rw[Bool.eq_iff_iff]
 simp only[different,Bool.and_eq_true]
 rw[Rn]
 constructor
 ·rintro⟨⟨h1,h2⟩,h3⟩
  exact⟨⟨h2,(FN h2).1 ((J4 l).1 h3)⟩,h1⟩
 ·rintro⟨⟨h2,h3⟩,h1⟩
  exact⟨⟨h1,h2⟩,(J4 l).2 ((FN h2).2 h3)⟩
def qU(n a:aH):Bool:=aZ a&&decide (a.aJ=n.aJ)
def qV(d:Entry):Bool:=aZ d.name&&(decide ((d.aliases.length:Int)≤16)&&d.aliases.all (qU d.name))&&vk (d.name::d.aliases)
theorem ac1(d:Entry):qV d=(aZ d.name&&different d.aliases&&d.aliases.all (qQ d.name)):=by
 rw[Bool.eq_iff_iff]
 simp only[qV,different,Bool.and_eq_true]
 rw[Rn,J4]
 have hfit:d.aliases.all (qU d.name)=true↔d.aliases.all aZ=true∧∀a∈d.aliases,a.aJ=d.name.aJ:=by
  simp only[List.all_eq_true,qU,Bool.and_eq_true,decide_eq_true_eq]
  exact⟨fun h=>⟨fun a ha=>(h a ha).1,fun a ha=>(h a ha).2⟩,fun h a ha=>⟨h.1 a ha,h.2 a ha⟩⟩
 have hal:d.aliases.all (qQ d.name)=true↔(∀a∈d.aliases,a.aJ=d.name.aJ)∧d.name∉d.aliases:=by
  simp only[List.all_eq_true,qQ,Bool.and_eq_true,decide_eq_true_eq,Bool.not_eq_true']
  constructor
  ·intro h
   refine⟨fun a ha=>(h a ha).1,fun hm=>?_⟩
   have:=(h _ hm).2
   rw[AL.2 rfl]at this;cases this
  ·rintro⟨h1,h2⟩ a ha
   refine⟨h1 a ha,?_⟩
   cases hs:bD a d.name with
   |false=>rfl
   |true=>rw[AL.1 hs]at ha;exact absurd ha h2
 rw[hfit,hal]
 constructor
 ·rintro⟨⟨h1,h2,h3,h4⟩,h5⟩
  have h6:=(FN (l:=d.name::d.aliases) (by simp only[List.all_cons,h1,h3,Bool.and_true])).1 h5
  rw[List.nodup_cons]at h6
  exact⟨⟨h1,⟨h3,h6.2⟩,h2⟩,h4,h6.1⟩
 ·rintro⟨⟨h1,⟨h3,h7⟩,h2⟩,h4,h6⟩
  exact⟨⟨h1,h2,h3,h4⟩,(FN (l:=d.name::d.aliases) (by simp only[List.all_cons,h1,h3,Bool.and_true])).2 (List.nodup_cons.2 ⟨h6,h7⟩)⟩
end Go.WW
namespace Go.WW
open Go.RowKit
def dU(l:List UInt8):List (Array Value):=l.map fun c=>#[.int .u8 c.toNat]
theorem ac2(l:List UInt8)(c:UInt8):dU l++[#[.int .u8 c.toNat]]=dU (l++[c]):=by simp[dU]
theorem fM(l:List UInt8):(dU l).length=l.length:=by simp[dU]
theorem FO(l:List UInt8):(esc l).length≤2*l.length:=by
 induction l with
 |nil=>simp[esc]
 |cons c l ih=>
   rw[AA,List.length_append,List.length_cons];have:(lC c).length≤2:=by unfold lC;split<;>simp
   omega
theorem ac3{l:List ByteArray}(h:∀s∈l,s.size≤32):(lF l).length≤65*l.length:=by
 induction l with
 |nil=>simp[lF]
 |cons s l ih=>
  have e:lF (s::l)=47::esc s.data.toList++lF l:=by simp[lF]
  have h1:=h s (by simp)
  have h2:=FO s.data.toList
  have h3:=ih (fun x hx=>h x (by simp[hx]))
  have h4:s.data.toList.length=s.size:=by simp
  rw[e,List.length_append,List.length_cons,List.length_cons]
  omega
theorem Ro{l:List ByteArray}(h:∀s∈l,s.size≤32):(iP l).length≤65*l.length:=by
 cases l with
 |nil=>simp[iP]
 |cons s l=>
  have h1:=h s (by simp)
  have h2:=FO s.data.toList
  have h3:=ac3 (l:=l) (fun x hx=>h x (by simp[hx]))
  have h4:s.data.toList.length=s.size:=by simp
  rw[iP,List.length_append,List.length_cons]
  omega
theorem ac4{p:aH}(h:aZ p=true):p.parts.length≤4∧(∀s∈p.parts,s.size≤32)∧p.aJ.size≤32:=by
 simp only[aZ,Bool.and_eq_true,List.all_eq_true,decide_eq_true_eq]at h
 refine⟨by omega,fun s hs=>?_,?_⟩
 ·have:=h.1.1.1 s hs
  simp only[jI,sized,Bool.and_eq_true,decide_eq_true_eq]at this
  omega
 ·have:=h.2
  simp only[iK,sized,Bool.and_eq_true,decide_eq_true_eq]at this
  omega
theorem take_snoc'(s:ByteArray)(j:Nat)(h:j<s.size):s.data.toList.take (j+1)=s.data.toList.take j++[s[j]]:=by
 rw[List.take_succ_eq_append_getElem (by simpa using h)];rfl
end Go.WW
namespace Go.Proofs.YtpfifochimkpfaaGreatDoor
open Go.RowKit Go.WW
theorem FP(c:UInt8)(w:World):Calls Tryz.prog 178 #[.int .u8 c.toNat] w fun e w'=>e=.returned (.bool (o6 c))∧w=w':=by
 go_enter Tryz.func178,Tryz.ntmps178
 cases c1:((c.toNat:Int) == 47)
 ·cases c2:((c.toNat:Int) == 64)
  ·have HN:=Lib.hid (show o6 c=((c.toNat:Int) == 92) by rw[o6,c1,c2];rfl)
   go_wp2_with fail
   go_ret
   exact⟨by rw[HN.out];rfl,rfl⟩
  ·have HN:=Lib.hid (show o6 c=true by rw[o6,c1,c2];rfl)
   go_wp2_with fail
   go_ret
   exact⟨by rw[HN.out];rfl,rfl⟩
 ·have HN:=Lib.hid (show o6 c=true by rw[o6,c1];rfl)
  go_wp2_with fail
  go_ret
  exact⟨by rw[HN.out];rfl,rfl⟩
theorem eP:fV Tryz.prog 58 5 1 1:=fV.of Tryz.underlying58 (by kernel_rfl)
structure tK(W wr:World)(sb:Sl)(l:List UInt8):Prop where
 b:Below W.heap.size W wr
 own:Go.WW.Own wr W.heap.size 5 1 sb (dU l)
theorem tK.app{W wr w':World}{sb s':Sl}{l:List UInt8}{c:UInt8}{o:Obj}(h:tK W wr sb l)(hown:Go.WW.Own w' W.heap.size 5 1 s' (dU l++[#[.int .u8 c.toNat]]))(hg:(wr.alloc o).grownBy w' sb.blk):tK W w' s' (l++[c]):=
 ⟨(h.b.alloc h.b.size _).grown hg (by have:=h.b.size;simp;omega) (fun k e=>(h.own.base e).1),by rw[←ac2];exact hown⟩
theorem tK.up{W wr:World}{sb:Sl}{l:List UInt8}(h:tK W wr sb l)(o:Obj):Go.WW.Own (wr.alloc o) W.heap.size 5 1 sb (dU l):=h.own.kept fun g hg=>Below.heap_alloc wr o g (h.own.base hg).2
theorem tK.sz{W wr:World}{sb:Sl}{l:List UInt8}(h:tK W wr sb l)(o:Obj):W.heap.size≤(wr.alloc o).heap.size:=by have:=h.b.size;simp;omega
theorem ac5{p:aH}(h:aZ p=true):0<(iP p.parts).length:=by
 have hne:=tJ h
 simp only[aZ,Bool.and_eq_true,List.all_eq_true]at h
 cases hl:p.parts with
 |nil=>exact absurd hl hne
 |cons q l=>
  have:=h.1.1.1 q (by rw[hl];simp)
  simp only[jI,sized,Bool.and_eq_true,decide_eq_true_eq]at this
  have h1:0<q.data.toList.length:=by
    have h2:q.data.toList.length=q.size:=by simp
    omega
  cases hd:q.data.toList with
  |nil=>rw[hd]at h1;simp at h1
  |cons c d=>
   rw[iP,hd,AA,List.length_append,List.length_append]
   have:0<(lC c).length:=by unfold lC;split<;>simp
   omega
theorem ac6{p:aH}{L:List UInt8}(h:L=iP p.parts):textOf p=(ByteArray.mk L.toArray++ByteArray.mk #[64])++p.aJ:=by
 obtain⟨pp,⟨⟨r⟩⟩⟩:=p
 subst h
 have e1:=ByteArray.mk_append_mk (iP pp) [64]
 have e2:=ByteArray.mk_append_mk (iP pp++[64]) r
 rw[show(ByteArray.mk #[64])=ByteArray.mk ([64]:List UInt8).toArray from rfl,e1]
 show _=ByteArray.mk (iP pp++[64]).toArray++ByteArray.mk r.toArray
 rw[e2]
 simp[textOf,qR]
theorem Rq(l:List ByteArray)(k:Nat)(h:k<l.length):iP (l.take (k+1))=(if k=0 then []else iP (l.take k)++[47])++esc l[k].data.toList:=by
 rw[List.take_succ_eq_append_getElem h,acV]
 have e:(l.take k).length=k:=by simp;omega
 rw[e]
theorem Rt(s:Sl)(p:aH)(w:World)(hp:bK w s p)(hok:aZ p=true):Calls Tryz.prog 133 #[.agg (az s p)] w fun e w'=>e=.returned (.tuple #[.string (textOf p),.int .i64 0])∧Below w.heap.size w w':=by
 obtain⟨hlen,Ru,hrl⟩:=ac4 hok
 have hp0:0<p.parts.length:=List.length_pos_iff.2 (tJ hok)
 have hB0:Below w.heap.size w (w.alloc (.cells (az s p) 35)):=(Below.refl _ w).alloc (Nat.le_refl _) _
 obtain⟨sa,scap⟩:=s
 obtain⟨b,o,ha,-,-⟩:=hp.1.get 0 hp0
 dsimp only at ha
 subst ha
 have hpL:=hp.later hB0
 go_enter Tryz.func133,Tryz.ntmps133
 go_wp2_with fail
 refine(ve _ _ _ hpL).mono ?_
 rintro e w1 ⟨rfl,hb1⟩
 rw[hok]
 obtain⟨hcc,bf,hrr⟩:=aQ hb1
 have hsz:w.heap.size<w1.heap.size:=by have:=hb1.size;simp at this;omega
 go_wp2_with fail
 clear hcc bf hrr hsz
 have HS:=Lib.hid Ru
 clear Ru
 have hc1:(w.alloc (.cells (az ⟨some ⟨b,o,none⟩,scap⟩ p) 35)).cell? ⟨w.heap.size,1,none⟩=some (.string p.aJ):=by simp[go_sem]
 have hW:w.heap.size<(w.alloc (.cells (az ⟨some ⟨b,o,none⟩,scap⟩ p) 35)).heap.size:=by simp
 generalize w.alloc (.cells (az ⟨some ⟨b,o,none⟩,scap⟩ p) 35)=W0 at *
 go_loopw [4,14] (fun bv i wr=>∃(k:Nat) (sb:Sl),k≤p.parts.length∧i=.int .i64 k∧bv=.slice sb.a (iP (p.parts.take k)).length sb.cap∧tK W0 wr sb (iP (p.parts.take k))) (fun _ i _=>p.parts.length-(intOf i).toNat)
 case atStart=>exact⟨0,⟨none,0⟩,Nat.zero_le _,rfl,rfl,hb1,Go.WW.Own.nil _ _ _ _⟩
 case round=>
  obtain⟨k,sb,hk,rfl,rfl,hR⟩:=hrel
  by_cases hlt:k<p.parts.length
  ·obtain⟨hcc,hss⟩:=(hpL.later hR.b).1.at k hlt
   have hbb:b<wr.heap.size:=World.block_lt_of_cell? wr _ hcc
   have hps:p.parts[k].size≤32:=HS.out _ (List.getElem_mem hlt)
   have hlt4:(iP (p.parts.take k)).length≤260:=by
    have h1:=Ro (l:=p.parts.take k) (fun x hx=>HS.out x (List.mem_of_mem_take hx))
    have h2:(p.parts.take k).length≤k:=List.length_take_le _ _
    omega
   by_cases hk0:k=0
   ·obtain⟨L1,hL1⟩:∃L:List UInt8,L=[]:=⟨_,rfl⟩
    have ac7:L1.length≤261:=by rw[hL1];simp
    have HL:=Lib.hid (show L1++esc p.parts[k].data.toList=iP (p.parts.take (k+1)) by rw[Rq _ _ hlt,if_pos hk0,hL1])
    have HK:=Lib.hid (show iP (p.parts.take k)=L1++esc (p.parts[k].data.toList.take 0) by subst hk0;subst hL1;simp[iP,esc])
    have hk1:decide (0<k)=false:=by simp[hk0]
    have hk2:¬(0:Int)<(k:Int):=by omega
    clear hL1 hk0
    go_wp2_with fail
    go_loopw [4,26] (fun bv i wr=>∃(j:Nat) (sb:Sl),j≤p.parts[k].size∧i=.int .i64 j∧bv=.slice sb.a (L1++esc (p.parts[k].data.toList.take j)).length sb.cap∧tK W0 wr sb (L1++esc (p.parts[k].data.toList.take j))) (fun _ i _=>p.parts[k].size-(intOf i).toNat)
    case atStart=>exact⟨0,sb,Nat.zero_le _,rfl,by rw[HK.out],by rw[←HK.out];exact hR⟩
    case round=>
     clear hR
     obtain⟨j,sc,hj,rfl,hbv,hI⟩:=hrel
     obtain⟨Lj,yB⟩:∃L,L=L1++esc (p.parts[k].data.toList.take j):=⟨_,rfl⟩
     rw[←yB]at hbv hI
     subst hbv
     have HJ:=Lib.hid yB
     clear yB
     by_cases hjt:j<p.parts[k].size
     ·have jm:=FO (p.parts[k].data.toList.take j)
      have hel:(p.parts[k].data.toList.take j).length≤j:=List.length_take_le _ _
      have hLL:Lj.length≤1000:=by rw[HJ.out,List.length_append];omega
      have HT:=Lib.hid (take_snoc' p.parts[k] j hjt)
      cases hsp:o6 p.parts[k][j]
      ·have HN:=Lib.hid (show lC p.parts[k][j]=[p.parts[k][j]] by rw[lC,hsp];rfl)
       go_wp2_with (first|(go_at_call 178;refine(FP _ _).mono ?_;rintro e w' ⟨rfl,rfl⟩;rw[hsp])|(at_builtin;refine gW rfl (.tmp 36) (.tmp 40) _ rfl eP rfl (fM _).symm (hI.up _) rfl rfl (cO.new _ #[.int .u8 p.parts[k][j].toNat] _ _ rfl (by simp[dL,Value.oneCell'])) (by rw[fM];simp;omega) (hI.sz _) ?_;intro s2 w2 hown hg hat;have hR2:=hI.app (c:=p.parts[k][j]) hown hg;clear hown hg hat))
       go_roundw
       case rel=>exact⟨j+1,s2,by omega,by go_num,by rw[HT.out,wX,HN.out,←List.append_assoc,←HJ.out];simp,by rw[HT.out,wX,HN.out,←List.append_assoc,←HJ.out];exact hR2⟩
       case measure=>simp[intOf];omega
      ·have HN:=Lib.hid (show lC p.parts[k][j]=[92,p.parts[k][j]] by rw[lC,hsp];rfl)
       go_wp2_with (first|(go_at_call 178;refine(FP _ _).mono ?_;rintro e w' ⟨rfl,rfl⟩;rw[hsp])|(at_builtin;refine gW rfl (.tmp 33) (.tmp 34) _ rfl eP rfl (fM _).symm (hI.up _) rfl rfl (cO.new _ #[.int .u8 92] _ _ rfl (by simp[dL,Value.oneCell'])) (by rw[fM];simp;omega) (hI.sz _) ?_;intro s2 w2 hown hg hat;have hR2:=hI.app (c:=92) hown hg;clear hown hg hat)|(at_builtin;refine gW rfl (.tmp 36) (.tmp 40) _ rfl eP rfl (by rw[fM];simp) (hR2.up _) rfl rfl (cO.new _ #[.int .u8 p.parts[k][j].toNat] _ _ rfl (by simp[dL,Value.oneCell'])) (by rw[fM];simp;omega) (hR2.sz _) ?_;intro s3 w3 hown hg hat;have dV:=hR2.app (c:=p.parts[k][j]) hown hg;clear hown hg hat))
       go_roundw
       case rel=>exact⟨j+1,s3,by omega,by go_num,by rw[HT.out,wX,HN.out,←List.append_assoc,←HJ.out];simp,by rw[HT.out,wX,HN.out,←List.append_assoc,←HJ.out];simpa using dV⟩
       case measure=>simp[intOf];omega
     ·have HE:=Lib.hid (show Lj=iP (p.parts.take (k+1)) by
       rw[HJ.out,List.take_of_length_le (by simp;omega)];exact HL.out)
      go_wp2_with fail
      go_roundw
      case rel=>exact⟨k+1,sc,by omega,by go_num,by rw[HE.out],by rw[←HE.out];exact hI⟩
      case measure=>simp[intOf];omega
   ·obtain⟨L1,hL1⟩:∃L:List UInt8,L=iP (p.parts.take k)++[47]:=⟨_,rfl⟩
    have ac7:L1.length≤261:=by rw[hL1,List.length_append];simp;omega
    have HL:=Lib.hid (show L1++esc p.parts[k].data.toList=iP (p.parts.take (k+1)) by rw[Rq _ _ hlt,if_neg hk0,hL1])
    have hk1:decide (0<k)=true:=by simp;omega
    have hk2:(0:Int)<(k:Int):=by omega
    have HK:=Lib.hid hL1
    clear hL1
    go_wp2_with (at_builtin;refine gW rfl (.tmp 21) (.tmp 22) _ rfl eP rfl (fM _).symm (hR.up _) rfl rfl (cO.new _ #[.int .u8 47] _ _ rfl (by simp[dL,Value.oneCell'])) (by rw[fM];simp;omega) (hR.sz _) ?_;intro s1 w1' hown hg hat;have hR1:=hR.app (c:=47) hown hg;clear hown hg hat)
    go_loopw [4,26] (fun bv i wr=>∃(j:Nat) (sb:Sl),j≤p.parts[k].size∧i=.int .i64 j∧bv=.slice sb.a (L1++esc (p.parts[k].data.toList.take j)).length sb.cap∧tK W0 wr sb (L1++esc (p.parts[k].data.toList.take j))) (fun _ i _=>p.parts[k].size-(intOf i).toNat)
    case atStart=>exact⟨0,s1,Nat.zero_le _,rfl,by rw[HK.out];simp[esc],by simp only[List.take_zero,JX,List.append_nil];rw[HK.out];exact hR1⟩
    case round=>
     clear hR
     obtain⟨j,sc,hj,rfl,hbv,hI⟩:=hrel
     obtain⟨Lj,yB⟩:∃L,L=L1++esc (p.parts[k].data.toList.take j):=⟨_,rfl⟩
     rw[←yB]at hbv hI
     subst hbv
     have HJ:=Lib.hid yB
     clear yB
     by_cases hjt:j<p.parts[k].size
     ·have jm:=FO (p.parts[k].data.toList.take j)
      have hel:(p.parts[k].data.toList.take j).length≤j:=List.length_take_le _ _
      have hLL:Lj.length≤1000:=by rw[HJ.out,List.length_append];omega
      have HT:=Lib.hid (take_snoc' p.parts[k] j hjt)
      cases hsp:o6 p.parts[k][j]
      ·have HN:=Lib.hid (show lC p.parts[k][j]=[p.parts[k][j]] by rw[lC,hsp];rfl)
       go_wp2_with (first|(go_at_call 178;refine(FP _ _).mono ?_;rintro e w' ⟨rfl,rfl⟩;rw[hsp])|(at_builtin;refine gW rfl (.tmp 36) (.tmp 40) _ rfl eP rfl (fM _).symm (hI.up _) rfl rfl (cO.new _ #[.int .u8 p.parts[k][j].toNat] _ _ rfl (by simp[dL,Value.oneCell'])) (by rw[fM];simp;omega) (hI.sz _) ?_;intro s2 w2 hown hg hat;have hR2:=hI.app (c:=p.parts[k][j]) hown hg;clear hown hg hat))
       go_roundw
       case rel=>exact⟨j+1,s2,by omega,by go_num,by rw[HT.out,wX,HN.out,←List.append_assoc,←HJ.out];simp,by rw[HT.out,wX,HN.out,←List.append_assoc,←HJ.out];exact hR2⟩
       case measure=>simp[intOf];omega
      ·have HN:=Lib.hid (show lC p.parts[k][j]=[92,p.parts[k][j]] by rw[lC,hsp];rfl)
       go_wp2_with (first|(go_at_call 178;refine(FP _ _).mono ?_;rintro e w' ⟨rfl,rfl⟩;rw[hsp])|(at_builtin;refine gW rfl (.tmp 33) (.tmp 34) _ rfl eP rfl (fM _).symm (hI.up _) rfl rfl (cO.new _ #[.int .u8 92] _ _ rfl (by simp[dL,Value.oneCell'])) (by rw[fM];simp;omega) (hI.sz _) ?_;intro s2 w2 hown hg hat;have hR2:=hI.app (c:=92) hown hg;clear hown hg hat)|(at_builtin;refine gW rfl (.tmp 36) (.tmp 40) _ rfl eP rfl (by rw[fM];simp) (hR2.up _) rfl rfl (cO.new _ #[.int .u8 p.parts[k][j].toNat] _ _ rfl (by simp[dL,Value.oneCell'])) (by rw[fM];simp;omega) (hR2.sz _) ?_;intro s3 w3 hown hg hat;have dV:=hR2.app (c:=p.parts[k][j]) hown hg;clear hown hg hat))
       go_roundw
       case rel=>exact⟨j+1,s3,by omega,by go_num,by rw[HT.out,wX,HN.out,←List.append_assoc,←HJ.out];simp,by rw[HT.out,wX,HN.out,←List.append_assoc,←HJ.out];simpa using dV⟩
       case measure=>simp[intOf];omega
     ·have HE:=Lib.hid (show Lj=iP (p.parts.take (k+1)) by
       rw[HJ.out,List.take_of_length_le (by simp;omega)];exact HL.out)
      go_wp2_with fail
      go_roundw
      case rel=>exact⟨k+1,sc,by omega,by go_num,by rw[HE.out],by rw[←HE.out];exact hI⟩
      case measure=>simp[intOf];omega
  ·have hE:p.parts.take k=p.parts:=List.take_of_length_le (by omega)
   rw[hE]at hR ⊢
   clear hE
   have hT:=Ro (l:=p.parts) (fun x hx=>HS.out x hx)
   have hpos:=ac5 hok
   obtain⟨L,hL⟩:∃L,L=iP p.parts:=⟨_,rfl⟩
   rw[←hL]at hR hT hpos ⊢
   have HX:=Lib.hid (ac6 hL)
   clear hL
   obtain⟨g,hga,-,-⟩:=hR.own.row 0 (by rw[fM];exact hpos)
   obtain⟨sba,sbc⟩:=sb
   dsimp only at hga
   subst hga
   have hcv:=JJ (P:=Tryz.prog) wr 58 9 5 Tryz.underlying58 Tryz.underlying5 Tryz.underlying9 g 0 sbc L (fun i hi=>by
    obtain⟨g',hg',-,hrow⟩:=hR.own.row i (by rw[fM];exact hi)
    cases hg'
    have hcell:=ji hrow 0 (by omega)
    simpa[dU]using hcell)
   have hrc:wr.cell? ⟨w.heap.size,1,none⟩=some (.string p.aJ):=(hR.b.cell (p:=⟨w.heap.size,1,none⟩) hW).trans hc1
   have am8:L.length≤260:=by omega
   have HB:=Lib.hid (hB0.trans (hR.b.mono hB0.size))
   have vw:w.heap.size<wr.heap.size:=World.block_lt_of_cell? wr _ hrc
   clear hR hT hpos hW hc1
   go_wp2_with fail
   go_ret2
   exact⟨by rw[HX.out];rfl,HB.out⟩
end Go.Proofs.YtpfifochimkpfaaGreatDoor
namespace Go.WW
open Go.RowKit
def lN(re:ByteArray)(s:Int)(n e p:Nat):Array Value:=#[.string re,.int .i64 s,.map (some n),.map (some e),.map (some p)]
theorem CG(re:ByteArray)(s s':Int)(n e p:Nat):(lN re s n e p).setIfInBounds 1 (.int .i64 s')=lN re s' n e p:=by kernel_rfl
theorem ada(re:ByteArray)(s:Int)(n e p:Nat):(lN re s n e p)[0]?=some (.string re):=rfl
theorem adb(re:ByteArray)(s:Int)(n e p:Nat):(lN re s n e p)[1]?=some (.int .i64 s):=rfl
theorem ade(re:ByteArray)(s:Int)(n e p:Nat):(lN re s n e p)[2]?=some (.map (some n)):=rfl
theorem adf(re:ByteArray)(s:Int)(n e p:Nat):(lN re s n e p)[3]?=some (.map (some e)):=rfl
theorem adg(re:ByteArray)(s:Int)(n e p:Nat):(lN re s n e p)[4]?=some (.map (some p)):=rfl
attribute [go_sem] ada adb ade adf adg
end Go.WW
namespace Go.Proofs.YtpfifochimkpfaaGreatDoor
open Go.RowKit Go.WW
theorem nI(b:Nat)(re:ByteArray)(w:World)(hc:w.cell? ⟨b,0,none⟩=some (.string re))(hre:¬re=⟨#[]⟩):Calls Tryz.prog 47 #[.pointer (some ⟨b,0,none⟩)] w fun e w'=>e=.returned (.bool false)∧w=w':=by
 have h0:=kJ _ _ hre
 have h1:¬re.toList=[]:=fun h=>hre (toList_inj (b:=⟨#[]⟩) (by rw[h,ByteArray.toList_eq]))
 have h2:re.toList.isEmpty=false:=by cases h:re.toList<;>simp_all
 clear hre
 go_enter Tryz.func47,Tryz.ntmps47
 go_wp2
 go_ret
 exact⟨rfl,rfl⟩
theorem qW(s:Sl)(p:aH)(w:World)(hp:bK w s p)(hok:aZ p=true):Calls Tryz.prog 72 #[.agg (az s p)] w fun e w'=>e=.returned (.string (textOf p))∧Below w.heap.size w w':=by
 have hB:Below w.heap.size w (w.alloc (.cells (az s p) 35)):=(Below.refl _ _).alloc (Nat.le_refl _) _
 go_enter Tryz.func72,Tryz.ntmps72
 go_wp2_with fail
 refine(Rt _ _ _ (hp.later hB) hok).mono ?_
 rintro e w2 ⟨rfl,hb2⟩
 dsimp only
 go_wp2_with fail
 go_ret
 exact⟨rfl,ag hB hb2⟩
theorem CJ(b:Nat)(s:Int)(w:World)(hc:w.cell? ⟨b,1,none⟩=some (.int .i64 s))(hf:w.frozen? ⟨b,1,none⟩=false)(h0:0≤s)(h1:s<1000000):Calls Tryz.prog 67 #[.pointer (some ⟨b,0,none⟩)] w fun e w'=>e=.returned (.tuple #[])∧w'=w.setCell ⟨b,1,none⟩ (.int .i64 (s+1)):=by
 have h2:(s == 4611686018427387903)=false:=by simp;omega
 have hb:b<w.heap.size:=World.block_lt_of_cell? w _ hc
 go_enter Tryz.func67,Tryz.ntmps67
 go_wp2
 go_end0
 exact⟨rfl,rfl⟩
end Go.Proofs.YtpfifochimkpfaaGreatDoor
