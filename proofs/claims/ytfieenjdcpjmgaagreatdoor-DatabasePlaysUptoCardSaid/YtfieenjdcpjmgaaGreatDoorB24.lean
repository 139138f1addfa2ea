/- A part of the proof. -/
import Derived.Test.YtfieenjdcpjmgaaGreatDoorB09
import Derived.Test.YtfieenjdcpjmgaaGreatDoorB23
import Derived.Carry
import Derived.Deep.DeepHandedRow
import Derived.Test.YtfieenjdcpjmgaaGreatDoorB17
import Derived.Test.YtfieenjdcpjmgaaGreatDoorB19
import Derived.Test.YtfieenjdcpjmgaaGreatDoorB22
import Derived.Test.YtfieenjdcpjmgaaGreatDoorB20
import Derived.Test.YtfieenjdcpjmgaaGreatDoorB11
import Derived.Test.YtfieenjdcpjmgaaGreatDoorB10
import Derived.Test.YtfieenjdcpjmgaaGreatDoorB07
import Derived.Shelf.LaysM
import Derived.Shelf.Bytes.Small
import Derived.Test.YtfieenjdcpjmgaaGreatDoorProg
import Derived.Test.YtfieenjdcpjmgaaGreatDoorB03
set_option maxRecDepth 2000000
set_option maxHeartbeats 4000000
namespace Go.WW
open Go.RowKit
theorem alq(z:kD)(x:fU):(gW z x).toList=[.int .u8 x.k.toNat]++((ae z.r x.d).toList++((ah z.t x.q).toList++([.int .i64 x.a,.int .i64 x.b,.int .i64 x.c]++(aC x.p).toList))):=by
 unfold gW;simp only[Array.toList_append]
end Go.WW
namespace Go.Proofs.YtfieenjdcpjmgaaGreatDoor
open Go.ChangeShapes Go.WideShapes Go.ChangeAt Go.RowKit Go.WW Go.Deep
theorem alr(cs:List Value)(h:cs.length=33):cs=(cs.drop 0).take 1++((cs.drop 1).take 17++((cs.drop 18).take 2++((cs.drop 20).take 3++(cs.drop 23).take 10))):=by
 have e5:(cs.drop 23).take 10=cs.drop 23:=List.take_of_length_le (by simp[h])
 have e4:(cs.drop 20).take 3++cs.drop 23=cs.drop 20:=by
  have:=List.take_append_drop 3 (cs.drop 20);rwa[List.drop_drop]at this
 have e3:(cs.drop 18).take 2++cs.drop 20=cs.drop 18:=by
  have:=List.take_append_drop 2 (cs.drop 18);rwa[List.drop_drop]at this
 have e2:(cs.drop 1).take 17++cs.drop 18=cs.drop 1:=by
  have:=List.take_append_drop 17 (cs.drop 1);rwa[List.drop_drop]at this
 rw[e5,e4,e3,e2,List.drop_zero]
 exact(List.take_append_drop 1 cs).symm
theorem XL:Tryz.prog.cellsOf 52=33:=by kernel_rfl
theorem XM:Tryz.prog.cellsOf 48=3:=by kernel_rfl
section
variable {H:Type} {enc:TypeId×Value→H} {w:World} {base:Nat} {spare:Nat→Bool} {held:Bool} {fuel:Nat} {x:DataW H×List MemPlace}
theorem als{cs:List Value}(h:DataW.trod enc Tryz.prog w base spare held fuel 48 cs=some x):∃a b c:Int,cs=[.int .i64 a,.int .i64 b,.int .i64 c]:=by
 obtain⟨xs,m,_,_,hl,hx,hel⟩:=DataW.trod_array Tryz.underlying48 h
 rw[XM]at hl
 obtain⟨c0,c1,c2,rfl⟩:=TB hl
 have each:∀i (c:Value),i<3→[c0,c1,c2][i]?=some c→∃n:Int,c=.int .i64 n:=fun i c hi hc=>by
  have:=hel i hi
  rw[jI,Nat.mul_one,take_one hc,List.getElem?_eq_getElem (by omega)]at this
  exact jJ this
 obtain⟨a,rfl⟩:=each 0 c0 (by omega) rfl
 obtain⟨b,rfl⟩:=each 1 c1 (by omega) rfl
 obtain⟨c,rfl⟩:=each 2 c2 (by omega) rfl
 exact⟨a,b,c,rfl⟩
theorem alu{cs:List Value}(h:DataW.trod enc Tryz.prog w base spare held fuel 52 cs=some x)(hb:Rows.uptoBulk x.1≤1048576) :
  ∃z y,cs=(gW z y).toList∧xH w z y:=by
 obtain⟨hl,n,hf⟩:=Aw Tryz.underlying52 h hb
 rw[XL]at hl
 obtain⟨y0,t0,-⟩:=hf 0 _ rfl
 obtain⟨y1,t1,b1⟩:=hf 1 _ rfl
 obtain⟨y2,t2,b2⟩:=hf 2 _ rfl
 obtain⟨y3,t3,-⟩:=hf 3 _ rfl
 obtain⟨y4,t4,b4⟩:=hf 4 _ rfl
 replace t0:DataW.trod enc Tryz.prog w base spare held n 5 ((cs.drop 0).take (Tryz.prog.cellsOf 5))=some y0:=t0
 replace t1:DataW.trod enc Tryz.prog w base spare held n 47 ((cs.drop 1).take (Tryz.prog.cellsOf 47))=some y1:=t1
 replace t2:DataW.trod enc Tryz.prog w base spare held n 40 ((cs.drop 18).take (Tryz.prog.cellsOf 40))=some y2:=t2
 replace t3:DataW.trod enc Tryz.prog w base spare held n 48 ((cs.drop 20).take (Tryz.prog.cellsOf 48))=some y3:=t3
 replace t4:DataW.trod enc Tryz.prog w base spare held n 50 ((cs.drop 23).take (Tryz.prog.cellsOf 50))=some y4:=t4
 rw[TC]at t0
 rw[TF]at t1
 rw[Gm]at t2
 rw[XM]at t3
 rw[TG]at t4
 have hs:=alr cs hl
 obtain⟨c0,hc0⟩:∃c0,(cs.drop 0).take 1=[c0]:=Kq (by simp;omega)
 rw[hc0]at t0
 obtain⟨k,rfl⟩:=TK t0
 obtain⟨r,d,he,hat⟩:=afY t1 b1
 obtain⟨s,p,hp,hpa⟩:=Kt t2 b2
 obtain⟨a,b,c,hn⟩:=als t3
 obtain⟨q,hq,Iq⟩:=af8 t4 b4
 rw[hc0,he,hp,hn,hq]at hs
 refine⟨⟨r,s⟩,⟨k,d,p,a,b,c,q⟩,?_,⟨hat,hpa,Iq⟩⟩
 rw[alq];exact hs
theorem alv{v:Value}(h:DataW.trod enc Tryz.prog w base spare held fuel 22 [v]=some x)(hb:Rows.uptoBulk x.1≤1048576):∃(s:Sl) (l:List fU),v=.slice s.a l.length s.cap∧vM w s.a l:=by
 obtain⟨s,n,hv,hn,hel⟩:=yz Tryz.underlying22 XL (by omega) h hb
 obtain⟨l,hl,hr⟩:=wS (R:=fun i (a:fU)=>∃b o z,s.a=some ⟨b,o,none⟩∧row? w b (o+i*33) 33=some (gW z a)∧xH w z a) (n:=n) (fun i hi=>by
  obtain⟨b,o,cs,f',y,ha,hrow,ht,hby⟩:=hel i hi
  obtain⟨z,p,hcs,hp⟩:=alu ht hby
  exact⟨p,b,o,z,ha,by rw[hrow,←Array.toList_inj.1 hcs],hp⟩)
 refine⟨s,l,by rw[hl];exact hv,by rw[hl];exact wU hn,fun i hi=>?_⟩
 obtain⟨b,o,z,h1,h2,h3⟩:=hr i l[i] (List.getElem?_eq_getElem hi)
 exact⟨b,o,_,h1,h2,l[i],z,List.getElem?_eq_getElem hi,rfl,h3⟩
end
theorem laidOut:laidOutB Tryz.prog=true:=by kernel_rfl
theorem alx:Tryz.prog.readableRec 22=true:=by kernel_rfl
theorem aly:22<Tryz.prog.types.size:=of_decide_eq_true (by kernel_rfl)
section
variable {H:Type} {enc:TypeId×Value→H}
theorem alz{W:World}{b0:Nat}{v:Value}{d:DataW H}{p:List MemPlace}(_hv:Value.okWide Tryz.prog W .any b0 22 v)(h:DataW.Trod enc Tryz.prog W 0 (fun _=>true) true 22 v d p)(hb:Rows.uptoBulk d≤1048576) :
  ∃(s:Sl) (l:List fU),v=.slice s.a l.length s.cap∧vM W s.a l:=by
 obtain⟨a,len,cap,rfl⟩:=okWide_slice Tryz.underlying22 _hv
 obtain⟨fuel,hf⟩:=h
 exact alv (x:=(d,p)) hf hb
theorem stays{W W':World}{t:TypeId}{v:Value}{d:DataW H}{ps:List MemPlace}(hr:Tryz.prog.readableRec t=true)(hrow:t<Tryz.prog.types.size)(h:DataW.Trod enc Tryz.prog W 0 (fun _=>true) true t v d ps)(hb:Below W.heap.size W W')(hlt:∀x∈ps,x.block<W.heap.size)
  {sp:Nat→Bool} (hsp:∀x∈ps,sp x.block=true):DataW.Trod enc Tryz.prog W' 0 sp true t v d ps:=
 WideElems.Trod_stays laidOut hr hrow h (fun x hx=>hb.same (hlt x hx)) hsp
theorem alA{f:Func}{s:ChangeSpec}{fresh handsOn again apart:Bool}{W W':World}{args:Array Value}{v:Value}{ds:List (DataW H)}{before:List MemPlace}
  (hW:DataW.Whole enc Tryz.prog f.params.toList s.vars apart W args.toList ds [] before)
  (hres:∀(b:Nat) (sp:Nat→Bool) (hd:Bool),DataW.TrodAll enc Tryz.prog W' b sp hd f.resultTypes.toList (v.resultList f.resultTypes.size) (s.fn H (ds++[])).results [])
  (hargs:∀sp:Nat→Bool,(∀p∈before,sp p.block=true)→DataW.TrodAll enc Tryz.prog W' 0 sp true f.params.toList args.toList (s.fn H (ds++[])).args before)
  (hvars:∀sp:Nat→Bool,DataW.TrodVars enc Tryz.prog W' sp s.vars (s.fn H (ds++[])).vars [])
  (hb:Below W.heap.size W W') (hok:∀(j:Nat) (t:TypeId) (r:Value),f.resultTypes[j]?=some t→(v.resultList f.resultTypes.size)[j]?=some r→Value.okWide Tryz.prog W' .any 0 t r) :
  s.post enc Tryz.prog f apart fresh handsOn again W args v W':=by
 have hold:∀q∈before,decide (q.block<W.heap.size)=true:=fun q hq=>by simpa using hW.lt q hq
 have hlt:=hW.lt
 refine⟨ds,[],before,[],before,[],hW,hres _ _ _,hargs _ hold,hvars _,World.keptBut_mono (fun q hq=>⟨hq,.inr (.inl hq)⟩) (hb.frame (·∈before)),fun _=>?_⟩
 obtain⟨_,_,_,_,_,hz,hn⟩:=hW
 refine⟨hok,_,_,([]++before)++[],⟨[]++before,[],trodAll_append (hargs _ (fun _ _=>rfl)) (hres _ _ _),hvars _,rfl,fun b off hq=>?_,fun ha=>?_⟩,fun q hq _=>?_⟩
 ·have hin:MemPlace.cell b off∈before:=by simpa using hq
  rw[hb.frozen (hlt _ hin)]
  exact hz b off hin
 ·simpa using hn ha
 ·simpa using hq
end
end Go.Proofs.YtfieenjdcpjmgaaGreatDoor
namespace Go.Proofs.YtfieenjdcpjmgaaGreatDoor
open Go.RowKit Go.WW
theorem alB(b:Nat)(re:ByteArray)(w:World)(hc:w.cell? ⟨b,0,none⟩=some (.string re))(hre:¬re=⟨#[]⟩):Calls Tryz.prog 45 #[.pointer (some ⟨b,0,none⟩)] w fun e w'=>e=.returned (.string re)∧w=w':=by
 have hl:=World.block_lt_of_cell? w _ hc
 go_enter Tryz.func45,Tryz.ntmps45
 go_wp2_with fail
 refine(jo _ _ _ hc hre).mono ?_
 rintro x w' ⟨rfl,rfl⟩
 dsimp only
 go_wp2_with fail
 go_ret
 exact⟨rfl,rfl⟩
attribute [local irreducible] aH
theorem XN{w:World}{n:Nat}{L:List (ByteArray×ByteArray)}(h:MapOf w n (dU L)){k o:ByteArray}(hx:(k,o)∈L):(Instr.lookup 84 (.map (some n)) (.string k) false).run Tryz.prog w=.ok (.string o) w:=by
 have hm:(k,Value.string o)∈dU L:=List.mem_map.2 ⟨(k,o),hx,rfl⟩
 exact Gq (P:=Tryz.prog) false Tryz.underlying84 Tryz.underlying9 h hm
theorem XO{w:World}{n:Nat}{L:List (ByteArray×ByteArray)}(h:MapOf w n (dU L)){k:ByteArray}(hx:∀o,(k,o)∉L):(Instr.lookup 84 (.map (some n)) (.string k) false).run Tryz.prog w=.ok (.string ⟨#[]⟩) w:=by
 refine Gs (P:=Tryz.prog) (z:=.string ⟨#[]⟩) false Tryz.underlying84 Tryz.underlying9 h (by kernel_rfl) ?_
 intro hm
 obtain⟨x,hx1,e⟩:=List.mem_map.1 hm
 obtain⟨y,hy,rfl⟩:=List.mem_map.1 hx1
 exact hx y.2 (by simp at e;rw[←e];exact hy)
theorem alC(b n e p:Nat)(re:ByteArray)(s:Int)(NL:List (ByteArray×ByteArray))(E:List EE)(P:List ai)(t:Sl)(q:az)(w:World)(h:bU w b n e p re s (dU NL) E P)(hre:¬re=⟨#[]⟩)(hq:bn w t q)(hno:∀o,(dQ q,o)∉NL)(hE0:∀x∈E,textOf x.2.name≠⟨#[]⟩) :
  Calls Tryz.prog 24 #[.pointer (some ⟨b,0,none⟩),.agg (ah t q)] w fun z w'=>z=.returned (.tuple #[.agg (ae aW aQ),.int .i64 9])∧Below w.heap.size w w':=by
 have hB:Below w.heap.size w ((w.alloc (.cells (ah t q) 40)).alloc (.cells (ae aW aQ) 47)):=aj (aj (Below.refl _ _) _) _
 have hx3:((w.alloc (.cells (ah t q) 40)).alloc (.cells (ae aW aQ) 47)).heap[w.heap.size]?=some (.cells (ah t q) 40):=jq _ _ _
 have hz:aS ((w.alloc (.cells (ah t q) 40)).alloc (.cells (ae aW aQ) 47)) (w.heap.size+1) 0 17=true:=by simp[go_sem]
 have zo:w.heap.size+1<((w.alloc (.cells (ah t q) 40)).alloc (.cells (ae aW aQ) 47)).heap.size:=by simp
 have h':=h.later hB
 have hq':=hq.later hB
 clear h hq
 rw[nN]at *
 go_enter Tryz.func24,Tryz.ntmps24
 go_wp2_with fail
 rw[←nN]at *
 generalize ((w.alloc (.cells (ah t q) 40)).alloc (.cells (ae aW aQ) 47))=W at *
 obtain⟨c0,c1,c2,c3,c4,f1,hl⟩:=dO h'.box
 have l0:w.heap.size<W.heap.size:=(Array.getElem?_eq_some_iff.1 hx3).1
 have iJ:row? W w.heap.size 0 2=some (ah t q):=by rw[bQ hx3];exact df (by simp[go_sem])
 refine(jo _ _ _ c0 hre).mono ?_
 rintro x w' ⟨rfl,rfl⟩
 dsimp only
 have hlk:∀x:Later W,(Instr.lookup 84 (.map (some n)) (.string (dQ q)) false).run Tryz.prog x.w=.ok (.string ⟨#[]⟩) x.w:=fun x=>XO (h'.nm.at (x.b.block n h'.nm.lt)) hno
 have hlk2:∀x:Later W,(Instr.lookup 85 (.map (some e)) (.string ⟨#[]⟩) true).run Tryz.prog x.w=.ok (.tuple #[.agg (ae aW aQ),.bool false]) x.w:=fun x=>AX (h'.em.at (x.b.block e h'.em.lt)) _ hE0
 go_wp2_with fail
 apply qy (M:=fun(bx:Nat) V=>Below W.heap.size W V∧V.heap[bx]?=some (.cells (ae aW aQ) 47)∧W.heap.size≤bx)
 case h1=>
  refine vF 17 11 [0,1,2,3,4,5,6,7,8,9,10,17,11,12,13,14,15,16,18,19] (Below.refl _ W) (by kernel_rfl) (by kernel_rfl) (by rfl) ?_ ?_
  ·intro v1 hv1
   iterate 11 (refine aP (by kernel_rfl) (by kernel_rfl) (fun K hK=>?_);go_big_quiet_op;refine hK _ ?_;clear hK K)
   refine aU (by rfl) (by rfl) (fun K hK=>?_)
   go_wp2_with fail
   refine(kT _ _ v1 (hq'.later hv1)).mono ?_
   rintro z v2 ⟨rfl,hv2⟩
   dsimp only
   have aV:=ag hv1 hv2
   refine hK _ _ (aA aV) ?_
   clear hK K
   iterate 5 (refine aP (by kernel_rfl) (by kernel_rfl) (fun K hK=>?_);go_big_quiet_op;refine hK _ ?_;clear hK K)
   refine aU (by rfl) (by rfl) (fun K hK=>?_)
   go_wp2_with fail
   refine hK _ _ (aA (aj aV _)) ?_
   clear hK K
   refine aU (by rfl) (by rfl) (fun K hK=>?_)
   go_wp2_with fail
   refine hK _ _ (aA (aj aV (.cells (ae aW aQ) 47))) ?_
   clear hK K
   iterate 1 (refine aP (by kernel_rfl) (by kernel_rfl) (fun K hK=>?_);go_big_quiet_op;refine hK _ ?_;clear hK K)
   refine bV ?_
   have cO:=aj aV (.cells (ae aW aQ) 47)
   have hbx:=World.alloc_heap_new v2 (.cells (ae aW aQ) 47)
   have iY:W.heap.size≤v2.heap.size:=aV.size
   clear hv1 hv2 aV
   generalize (v2.alloc (.cells (ae aW aQ) 47))=V5 at *
   generalize v2.heap.size=bx at *
   exact⟨by first|rfl|trivial,bx,rfl,⟨cO,hbx,iY⟩⟩
  ·intro v1 hv1
   simp only[pick,List.getElem?_cons_zero,List.getElem?_cons_succ]
   iterate 11 (refine aP (by kernel_rfl) (by kernel_rfl) (fun K hK=>?_);go_big_quiet_op;refine hK _ ?_;clear hK K)
   refine aU (by rfl) (by rfl) (fun K hK=>?_)
   go_wp2_with fail
   refine hK _ _ (aA (aj hv1 _)) ?_
   clear hK K
   rw[←nN]
   have hz1:=World.alloc_heap_new v1 (.cells (ae aW aQ) 47)
   have eP:=aj hv1 (.cells (ae aW aQ) 47)
   generalize v1.alloc (.cells (ae aW aQ) 47)=Z at *
   refine aU (by rfl) (by rfl) (fun K hK=>?_)
   go_wp2_with fail
   refine(kT _ _ _ (hq'.later eP)).mono ?_
   rintro z v2 ⟨rfl,hv2⟩
   dsimp only
   have aV:=ag eP hv2
   refine hK _ _ (aA aV) ?_
   clear hK K
   have hz2:=aJ hv2 hz1
   have hcp:aS v2 v1.heap.size 0 17=true:=lY hz2 (by simp[go_sem])
   have cO:=Go.WW.Below.putRow (o:=0) (cs:=ae aW aQ) aV hv1.size
   iterate 5 (refine aP (by kernel_rfl) (by kernel_rfl) (fun K hK=>?_);go_big_quiet_op;refine hK _ ?_;clear hK K)
   refine aU (by rfl) (by rfl) (fun K hK=>?_)
   go_wp2_with fail
   refine hK _ _ (aA cO) ?_
   clear hK K
   iterate 1 (refine aP (by kernel_rfl) (by kernel_rfl) (fun K hK=>?_);go_big_quiet_op;refine hK _ ?_;clear hK K)
   refine bV ?_
   have hbx:=kM (o:=0) (cs:=ae aW aQ) hz2 (by simp[go_sem])
   rw[nZ (by simp[go_sem])]at hbx
   have iY:W.heap.size≤v1.heap.size:=hv1.size
   clear hv2 aV hz1 hz2 hcp eP
   generalize (putRow v2 v1.heap.size 0 (ae aW aQ))=V5 at *
   generalize v1.heap.size=bx at *
   exact⟨by first|rfl|trivial,bx,rfl,⟨cO,hbx,iY⟩⟩
 rintro bx V ⟨ed,hbx,hge⟩
 clear hlk hlk2 c0 c1 c2 c3 c4 f1 iJ
 have xI:=(gG ed (w.heap.size+1) 0 17 zo).trans hz
 obtain⟨xc,xf,xr,xl⟩:=aB hbx
 have zl:w.heap.size+1<V.heap.size:=by have:=ed.size;omega
 have hne:bx≠w.heap.size+1:=by omega
 go_wp2_with fail
 have hrow:=iO (w:=V) (Ae aW aQ) xI
 exact bodyPost_ret (jE (by rfl) Tryz.underlying47 rfl (by kernel_rfl) rfl hrow) rfl ⟨rfl,Go.WW.Below.putRow (ag hB ed) (by omega)⟩
end Go.Proofs.YtfieenjdcpjmgaaGreatDoor
namespace Go.WW
open Go.RowKit
def mG:az:=⟨[],⟨#[]⟩⟩
theorem D9:ah jT mG=#[.slice none 0 0,.string ⟨#[]⟩]:=rfl
theorem alD(w:World):bn w jT mG:=⟨⟨by simp[mG,lim],fun i hi=>by simp[mG]at hi⟩,Nat.zero_le _⟩
end Go.WW
namespace Go.Proofs.YtfieenjdcpjmgaaGreatDoor
open Go.RowKit Go.WW
theorem NT(b n e p:Nat)(re:ByteArray)(s:Int)(N:List (ByteArray×Value))(E:List EE)(P:List ai)(w:World)(h:bU w b n e p re s N E P)(hre:¬re=⟨#[]⟩):Calls Tryz.prog 12 #[.pointer (some ⟨b,0,none⟩)] w fun z w'=>z=.returned (.int .i64 s)∧w=w':=by
 obtain⟨c0,c1,c2,c3,c4,f1,hl⟩:=dO h.box
 go_enter Tryz.func12,Tryz.ntmps12
 go_wp2_with fail
 refine(jo _ _ _ c0 hre).mono ?_
 rintro x w' ⟨rfl,rfl⟩
 dsimp only
 go_wp2_with fail
 go_ret
 exact⟨rfl,rfl⟩
theorem XP(b n e p:Nat)(re:ByteArray)(s:Int)(N:List (ByteArray×Value))(E:List EE)(P:List ai)(w:World)(h:bU w b n e p re s N E P)(hre:¬re=⟨#[]⟩):Calls Tryz.prog 13 #[.pointer (some ⟨b,0,none⟩)] w fun z w'=>z=.returned (.int .i64 E.length)∧w=w':=by
 obtain⟨c0,c1,c2,c3,c4,f1,hl⟩:=dO h.box
 have hln:=yE (P:=Tryz.prog) (ty:=3) (nJ:=#[85]) rfl Tryz.underlying85 h.em
 rw[List.length_map]at hln
 go_enter Tryz.func13,Tryz.ntmps13
 go_wp2_with fail
 refine(jo _ _ _ c0 hre).mono ?_
 rintro x w' ⟨rfl,rfl⟩
 dsimp only
 go_wp2_with fail
 go_ret
 exact⟨rfl,rfl⟩
attribute [local irreducible] aH
theorem XQ(b n e p:Nat)(re:ByteArray)(s:Int)(NL:List (ByteArray×ByteArray))(E:List EE)(P:List ai)(t:Sl)(q:az)(w:World)(h:bU w b n e p re s (dU NL) E P)(hre:¬re=⟨#[]⟩)(hq:bn w t q)(x0:EE)(hx0:x0∈E)(hk:(dQ q,textOf x0.2.name)∈NL)(he:bK w x0.1 x0.2) :
  Calls Tryz.prog 24 #[.pointer (some ⟨b,0,none⟩),.agg (ah t q)] w fun z w'=>∃r',z=.returned (.tuple #[.agg (ae r' x0.2),.int .i64 0])∧Below w.heap.size w w'∧bH w' (fresh w.heap.size w') (fun y=>ry w.heap.size y r' x0.2):=by
 have hB:Below w.heap.size w ((w.alloc (.cells (ah t q) 40)).alloc (.cells (ae aW aQ) 47)):=aj (aj (Below.refl _ _) _) _
 have hx3:((w.alloc (.cells (ah t q) 40)).alloc (.cells (ae aW aQ) 47)).heap[w.heap.size]?=some (.cells (ah t q) 40):=jq _ _ _
 have hz:aS ((w.alloc (.cells (ah t q) 40)).alloc (.cells (ae aW aQ) 47)) (w.heap.size+1) 0 17=true:=by simp[go_sem]
 have zo:w.heap.size+1<((w.alloc (.cells (ah t q) 40)).alloc (.cells (ae aW aQ) 47)).heap.size:=by simp
 have h':=h.later hB
 have hq':=hq.later hB
 have HE:=Lib.hid (he.later hB)
 clear h hq he
 rw[nN]at *
 go_enter Tryz.func24,Tryz.ntmps24
 go_wp2_with fail
 rw[←nN]at *
 generalize ((w.alloc (.cells (ah t q) 40)).alloc (.cells (ae aW aQ) 47))=W at *
 obtain⟨c0,c1,c2,c3,c4,f1,hl⟩:=dO h'.box
 have l0:w.heap.size<W.heap.size:=(Array.getElem?_eq_some_iff.1 hx3).1
 have iJ:row? W w.heap.size 0 2=some (ah t q):=by rw[bQ hx3];exact df (by simp[go_sem])
 refine(jo _ _ _ c0 hre).mono ?_
 rintro x w' ⟨rfl,rfl⟩
 dsimp only
 have hlk:∀x:Later W,(Instr.lookup 84 (.map (some n)) (.string (dQ q)) false).run Tryz.prog x.w=.ok (.string (textOf x0.2.name)) x.w:=fun x=>XN (h'.nm.at (x.b.block n h'.nm.lt)) hk
 have hlk2:∀x:Later W,(Instr.lookup 85 (.map (some e)) (.string (textOf x0.2.name)) true).run Tryz.prog x.w=.ok (.tuple #[.agg (ae x0.1 x0.2),.bool true]) x.w:=fun x=>AQ (h'.em.at (x.b.block e h'.em.lt)) x0 hx0
 go_wp2_with fail
 apply qy (M:=fun(bx:Nat) V=>Below W.heap.size W V∧V.heap[bx]?=some (.cells (ae x0.1 x0.2) 47)∧W.heap.size≤bx)
 case h1=>
  refine vF 17 11 [0,1,2,3,4,5,6,7,8,9,10,17,11,12,13,14,15,16,18,19] (Below.refl _ W) (by kernel_rfl) (by kernel_rfl) (by rfl) ?_ ?_
  ·intro v1 hv1
   iterate 11 (refine aP (by kernel_rfl) (by kernel_rfl) (fun K hK=>?_);go_big_quiet_op;refine hK _ ?_;clear hK K)
   refine aU (by rfl) (by rfl) (fun K hK=>?_)
   go_wp2_with fail
   refine(kT _ _ v1 (hq'.later hv1)).mono ?_
   rintro z v2 ⟨rfl,hv2⟩
   dsimp only
   have aV:=ag hv1 hv2
   refine hK _ _ (aA aV) ?_
   clear hK K
   iterate 5 (refine aP (by kernel_rfl) (by kernel_rfl) (fun K hK=>?_);go_big_quiet_op;refine hK _ ?_;clear hK K)
   refine aU (by rfl) (by rfl) (fun K hK=>?_)
   go_wp2_with fail
   refine hK _ _ (aA (aj aV _)) ?_
   clear hK K
   refine aU (by rfl) (by rfl) (fun K hK=>?_)
   go_wp2_with fail
   refine hK _ _ (aA (aj aV (.cells (ae x0.1 x0.2) 47))) ?_
   clear hK K
   iterate 1 (refine aP (by kernel_rfl) (by kernel_rfl) (fun K hK=>?_);go_big_quiet_op;refine hK _ ?_;clear hK K)
   refine bV ?_
   have cO:=aj aV (.cells (ae x0.1 x0.2) 47)
   have hbx:=World.alloc_heap_new v2 (.cells (ae x0.1 x0.2) 47)
   have iY:W.heap.size≤v2.heap.size:=aV.size
   clear hv1 hv2 aV
   generalize (v2.alloc (.cells (ae x0.1 x0.2) 47))=V5 at *
   generalize v2.heap.size=bx at *
   exact⟨by first|rfl|trivial,bx,rfl,⟨cO,hbx,iY⟩⟩
  ·intro v1 hv1
   simp only[pick,List.getElem?_cons_zero,List.getElem?_cons_succ]
   iterate 11 (refine aP (by kernel_rfl) (by kernel_rfl) (fun K hK=>?_);go_big_quiet_op;refine hK _ ?_;clear hK K)
   refine aU (by rfl) (by rfl) (fun K hK=>?_)
   go_wp2_with fail
   refine hK _ _ (aA (aj hv1 _)) ?_
   clear hK K
   rw[←nN]
   have hz1:=World.alloc_heap_new v1 (.cells (ae aW aQ) 47)
   have eP:=aj hv1 (.cells (ae aW aQ) 47)
   generalize v1.alloc (.cells (ae aW aQ) 47)=Z at *
   refine aU (by rfl) (by rfl) (fun K hK=>?_)
   go_wp2_with fail
   refine(kT _ _ _ (hq'.later eP)).mono ?_
   rintro z v2 ⟨rfl,hv2⟩
   dsimp only
   have aV:=ag eP hv2
   refine hK _ _ (aA aV) ?_
   clear hK K
   have hz2:=aJ hv2 hz1
   have hcp:aS v2 v1.heap.size 0 17=true:=lY hz2 (by simp[go_sem])
   have cO:=Go.WW.Below.putRow (o:=0) (cs:=ae x0.1 x0.2) aV hv1.size
   iterate 5 (refine aP (by kernel_rfl) (by kernel_rfl) (fun K hK=>?_);go_big_quiet_op;refine hK _ ?_;clear hK K)
   refine aU (by rfl) (by rfl) (fun K hK=>?_)
   go_wp2_with fail
   refine hK _ _ (aA cO) ?_
   clear hK K
   iterate 1 (refine aP (by kernel_rfl) (by kernel_rfl) (fun K hK=>?_);go_big_quiet_op;refine hK _ ?_;clear hK K)
   refine bV ?_
   have hbx:=kM (o:=0) (cs:=ae x0.1 x0.2) hz2 (by simp[go_sem])
   rw[nZ (by simp[go_sem])]at hbx
   have iY:W.heap.size≤v1.heap.size:=hv1.size
   clear hv2 aV hz1 hz2 hcp eP
   generalize (putRow v2 v1.heap.size 0 (ae x0.1 x0.2))=V5 at *
   generalize v1.heap.size=bx at *
   exact⟨by first|rfl|trivial,bx,rfl,⟨cO,hbx,iY⟩⟩
 rintro bx V ⟨ed,hbx,hge⟩
 clear hlk hlk2 c0 c1 c2 c3 c4 f1 iJ
 have xI:=(gG ed (w.heap.size+1) 0 17 zo).trans hz
 obtain⟨xc,xf,xr,xl⟩:=aB hbx
 have zl:w.heap.size+1<V.heap.size:=by have:=ed.size;omega
 have hne:bx≠w.heap.size+1:=by omega
 go_wp2_with fail
 refine(Ul _ _ _ (HE.out.later ed)).mono ?_
 rintro z V2 ⟨r',rfl,hb2,hd2⟩
 have hz2:=(gG hb2 (w.heap.size+1) 0 17 zl).trans xI
 have hl2:w.heap.size+1<V2.heap.size:=by have:=hb2.size;omega
 clear xc xf xr
 dsimp only
 go_wp2_with fail
 have hrow:=iO (w:=V2) (Ae r' x0.2) hz2
 refine bodyPost_ret (jE (by rfl) Tryz.underlying47 rfl (by kernel_rfl) rfl hrow) rfl ⟨r',rfl,Go.WW.Below.putRow (ag (ag hB ed) hb2) (by omega),fun x hx=>?_⟩
 have hw:=hd2 x (fun k hk=>by
  have h9:=hk.1
  have h8:=hk.2
  have h7:=ed.size
  rw[hx k ⟨by omega,by rw[kN];omega⟩,iI (by omega)])
 have hle:w.heap.size≤V.heap.size:=by have:=ed.size;omega
 exact⟨hw.at_,hw.name.le hle,hw.aliases.le hle,hw.keys.le hle⟩
theorem XR(b n e p:Nat)(re:ByteArray)(s:Int)(NL:List (ByteArray×ByteArray))(E:List EE)(P:List ai)(t:Sl)(q:az)(w:World)(h:bU w b n e p re s (dU NL) E P)(hre:¬re=⟨#[]⟩)(hq:bn w t q)(x0:EE)(hx0:x0∈E)(hk:(dQ q,textOf x0.2.name)∈NL)(he:bK w x0.1 x0.2) :
  Calls Tryz.prog 25 #[.pointer (some ⟨b,0,none⟩),.agg (ah t q)] w fun z w'=>∃s':Sl,z=.returned (.tuple #[.agg (ah s' x0.2.name),.int .i64 0])∧Below w.heap.size w w'∧bn w' s' x0.2.name:=by
 have hB:Below w.heap.size w ((w.alloc (.cells (ah t q) 40)).alloc (.cells (ah jT mG) 40)):=aj (aj (Below.refl _ _) _) _
 have hx3:((w.alloc (.cells (ah t q) 40)).alloc (.cells (ah jT mG) 40)).heap[w.heap.size]?=some (.cells (ah t q) 40):=jq _ _ _
 have hz:aS ((w.alloc (.cells (ah t q) 40)).alloc (.cells (ah jT mG) 40)) (w.heap.size+1) 0 2=true:=by simp[go_sem]
 have zo:w.heap.size+1<((w.alloc (.cells (ah t q) 40)).alloc (.cells (ah jT mG) 40)).heap.size:=by simp
 have h':=h.later hB
 have hq':=hq.later hB
 have HE:=Lib.hid (he.later hB)
 clear h hq he
 rw[D9]at *
 go_enter Tryz.func25,Tryz.ntmps25
 go_wp2_with fail
 rw[←D9]at *
 generalize ((w.alloc (.cells (ah t q) 40)).alloc (.cells (ah jT mG) 40))=W at *
 obtain⟨c0,c1,c2,c3,c4,f1,hl⟩:=dO h'.box
 have l0:w.heap.size<W.heap.size:=(Array.getElem?_eq_some_iff.1 hx3).1
 have iJ:row? W w.heap.size 0 2=some (ah t q):=by rw[bQ hx3];exact df (by simp[go_sem])
 refine(jo _ _ _ c0 hre).mono ?_
 rintro x w' ⟨rfl,rfl⟩
 dsimp only
 have hlk:∀x:Later W,(Instr.lookup 84 (.map (some n)) (.string (dQ q)) false).run Tryz.prog x.w=.ok (.string (textOf x0.2.name)) x.w:=fun x=>XN (h'.nm.at (x.b.block n h'.nm.lt)) hk
 have hlk2:∀x:Later W,(Instr.lookup 85 (.map (some e)) (.string (textOf x0.2.name)) true).run Tryz.prog x.w=.ok (.tuple #[.agg (ae x0.1 x0.2),.bool true]) x.w:=fun x=>AQ (h'.em.at (x.b.block e h'.em.lt)) x0 hx0
 go_wp2_with fail
 apply qy (M:=fun(bx:Nat) V=>Below W.heap.size W V∧V.heap[bx]?=some (.cells (ae x0.1 x0.2) 47)∧W.heap.size≤bx)
 case h1=>
  refine vF 17 11 [0,1,2,3,4,5,6,7,8,9,10,17,11,12,13,14,15,16,18,19] (Below.refl _ W) (by kernel_rfl) (by kernel_rfl) (by rfl) ?_ ?_
  ·intro v1 hv1
   iterate 11 (refine aP (by kernel_rfl) (by kernel_rfl) (fun K hK=>?_);go_big_quiet_op;refine hK _ ?_;clear hK K)
   refine aU (by rfl) (by rfl) (fun K hK=>?_)
   go_wp2_with fail
   refine(kT _ _ v1 (hq'.later hv1)).mono ?_
   rintro z v2 ⟨rfl,hv2⟩
   dsimp only
   have aV:=ag hv1 hv2
   refine hK _ _ (aA aV) ?_
   clear hK K
   iterate 5 (refine aP (by kernel_rfl) (by kernel_rfl) (fun K hK=>?_);go_big_quiet_op;refine hK _ ?_;clear hK K)
   refine aU (by rfl) (by rfl) (fun K hK=>?_)
   go_wp2_with fail
   refine hK _ _ (aA (aj aV _)) ?_
   clear hK K
   refine aU (by rfl) (by rfl) (fun K hK=>?_)
   go_wp2_with fail
   refine hK _ _ (aA (aj aV (.cells (ae x0.1 x0.2) 47))) ?_
   clear hK K
   iterate 1 (refine aP (by kernel_rfl) (by kernel_rfl) (fun K hK=>?_);go_big_quiet_op;refine hK _ ?_;clear hK K)
   refine bV ?_
   have cO:=aj aV (.cells (ae x0.1 x0.2) 47)
   have hbx:=World.alloc_heap_new v2 (.cells (ae x0.1 x0.2) 47)
   have iY:W.heap.size≤v2.heap.size:=aV.size
   clear hv1 hv2 aV
   generalize (v2.alloc (.cells (ae x0.1 x0.2) 47))=V5 at *
   generalize v2.heap.size=bx at *
   exact⟨by first|rfl|trivial,bx,rfl,⟨cO,hbx,iY⟩⟩
  ·intro v1 hv1
   simp only[pick,List.getElem?_cons_zero,List.getElem?_cons_succ]
   iterate 11 (refine aP (by kernel_rfl) (by kernel_rfl) (fun K hK=>?_);go_big_quiet_op;refine hK _ ?_;clear hK K)
   refine aU (by rfl) (by rfl) (fun K hK=>?_)
   go_wp2_with fail
   refine hK _ _ (aA (aj hv1 _)) ?_
   clear hK K
   rw[←nN]
   have hz1:=World.alloc_heap_new v1 (.cells (ae aW aQ) 47)
   have eP:=aj hv1 (.cells (ae aW aQ) 47)
   generalize v1.alloc (.cells (ae aW aQ) 47)=Z at *
   refine aU (by rfl) (by rfl) (fun K hK=>?_)
   go_wp2_with fail
   refine(kT _ _ _ (hq'.later eP)).mono ?_
   rintro z v2 ⟨rfl,hv2⟩
   dsimp only
   have aV:=ag eP hv2
   refine hK _ _ (aA aV) ?_
   clear hK K
   have hz2:=aJ hv2 hz1
   have hcp:aS v2 v1.heap.size 0 17=true:=lY hz2 (by simp[go_sem])
   have cO:=Go.WW.Below.putRow (o:=0) (cs:=ae x0.1 x0.2) aV hv1.size
   iterate 5 (refine aP (by kernel_rfl) (by kernel_rfl) (fun K hK=>?_);go_big_quiet_op;refine hK _ ?_;clear hK K)
   refine aU (by rfl) (by rfl) (fun K hK=>?_)
   go_wp2_with fail
   refine hK _ _ (aA cO) ?_
   clear hK K
   iterate 1 (refine aP (by kernel_rfl) (by kernel_rfl) (fun K hK=>?_);go_big_quiet_op;refine hK _ ?_;clear hK K)
   refine bV ?_
   have hbx:=kM (o:=0) (cs:=ae x0.1 x0.2) hz2 (by simp[go_sem])
   rw[nZ (by simp[go_sem])]at hbx
   have iY:W.heap.size≤v1.heap.size:=hv1.size
   clear hv2 aV hz1 hz2 hcp eP
   generalize (putRow v2 v1.heap.size 0 (ae x0.1 x0.2))=V5 at *
   generalize v1.heap.size=bx at *
   exact⟨by first|rfl|trivial,bx,rfl,⟨cO,hbx,iY⟩⟩
 rintro bx V ⟨ed,hbx,hge⟩
 clear hlk hlk2 c0 c1 c2 c3 c4 f1 iJ
 have xI:=(gG ed (w.heap.size+1) 0 2 zo).trans hz
 obtain⟨xc,xf,xr,xl⟩:=aB hbx
 have zl:w.heap.size+1<V.heap.size:=by have:=ed.size;omega
 have hne:bx≠w.heap.size+1:=by omega
 go_wp2_with fail
 refine(KR _ _ _ (HE.out.later ed).name).mono ?_
 rintro z V2 ⟨r',rfl,hb2,hd2⟩
 have hz2:=(gG hb2 (w.heap.size+1) 0 2 zl).trans xI
 have hl2:w.heap.size+1<V2.heap.size:=by have:=hb2.size;omega
 clear xc xf xr
 dsimp only
 go_wp2_with fail
 have hrow:=iO (w:=V2) (uN r' x0.2.name) hz2
 refine bodyPost_ret (jE (by rfl) Tryz.underlying40 rfl (by kernel_rfl) rfl hrow) rfl ⟨r',rfl,Go.WW.Below.putRow (ag (ag hB ed) hb2) (by omega),?_⟩
 exact hd2 _ (fun k hk=>by
  have h9:=hk.1
  have h7:=ed.size
  rw[iI (by omega)])
theorem alE(b n e p:Nat)(re:ByteArray)(s:Int)(NL:List (ByteArray×ByteArray))(E:List EE)(P:List ai)(t:Sl)(q:az)(w:World)(h:bU w b n e p re s (dU NL) E P)(hre:¬re=⟨#[]⟩)(hq:bn w t q)(hno:∀o,(dQ q,o)∉NL)(hE0:∀x∈E,textOf x.2.name≠⟨#[]⟩) :
  Calls Tryz.prog 25 #[.pointer (some ⟨b,0,none⟩),.agg (ah t q)] w fun z w'=>z=.returned (.tuple #[.agg (ah jT mG),.int .i64 9])∧Below w.heap.size w w':=by
 have hB:Below w.heap.size w ((w.alloc (.cells (ah t q) 40)).alloc (.cells (ah jT mG) 40)):=aj (aj (Below.refl _ _) _) _
 have hx3:((w.alloc (.cells (ah t q) 40)).alloc (.cells (ah jT mG) 40)).heap[w.heap.size]?=some (.cells (ah t q) 40):=jq _ _ _
 have hz:aS ((w.alloc (.cells (ah t q) 40)).alloc (.cells (ah jT mG) 40)) (w.heap.size+1) 0 2=true:=by simp[go_sem]
 have zo:w.heap.size+1<((w.alloc (.cells (ah t q) 40)).alloc (.cells (ah jT mG) 40)).heap.size:=by simp
 have h':=h.later hB
 have hq':=hq.later hB
 clear h hq
 rw[D9]at *
 go_enter Tryz.func25,Tryz.ntmps25
 go_wp2_with fail
 rw[←D9]at *
 generalize ((w.alloc (.cells (ah t q) 40)).alloc (.cells (ah jT mG) 40))=W at *
 obtain⟨c0,c1,c2,c3,c4,f1,hl⟩:=dO h'.box
 have l0:w.heap.size<W.heap.size:=(Array.getElem?_eq_some_iff.1 hx3).1
 have iJ:row? W w.heap.size 0 2=some (ah t q):=by rw[bQ hx3];exact df (by simp[go_sem])
 refine(jo _ _ _ c0 hre).mono ?_
 rintro x w' ⟨rfl,rfl⟩
 dsimp only
 have hlk:∀x:Later W,(Instr.lookup 84 (.map (some n)) (.string (dQ q)) false).run Tryz.prog x.w=.ok (.string ⟨#[]⟩) x.w:=fun x=>XO (h'.nm.at (x.b.block n h'.nm.lt)) hno
 have hlk2:∀x:Later W,(Instr.lookup 85 (.map (some e)) (.string ⟨#[]⟩) true).run Tryz.prog x.w=.ok (.tuple #[.agg (ae aW aQ),.bool false]) x.w:=fun x=>AX (h'.em.at (x.b.block e h'.em.lt)) _ hE0
 go_wp2_with fail
 apply qy (M:=fun(bx:Nat) V=>Below W.heap.size W V∧V.heap[bx]?=some (.cells (ae aW aQ) 47)∧W.heap.size≤bx)
 case h1=>
  refine vF 17 11 [0,1,2,3,4,5,6,7,8,9,10,17,11,12,13,14,15,16,18,19] (Below.refl _ W) (by kernel_rfl) (by kernel_rfl) (by rfl) ?_ ?_
  ·intro v1 hv1
   iterate 11 (refine aP (by kernel_rfl) (by kernel_rfl) (fun K hK=>?_);go_big_quiet_op;refine hK _ ?_;clear hK K)
   refine aU (by rfl) (by rfl) (fun K hK=>?_)
   go_wp2_with fail
   refine(kT _ _ v1 (hq'.later hv1)).mono ?_
   rintro z v2 ⟨rfl,hv2⟩
   dsimp only
   have aV:=ag hv1 hv2
   refine hK _ _ (aA aV) ?_
   clear hK K
   iterate 5 (refine aP (by kernel_rfl) (by kernel_rfl) (fun K hK=>?_);go_big_quiet_op;refine hK _ ?_;clear hK K)
   refine aU (by rfl) (by rfl) (fun K hK=>?_)
   go_wp2_with fail
   refine hK _ _ (aA (aj aV _)) ?_
   clear hK K
   refine aU (by rfl) (by rfl) (fun K hK=>?_)
   go_wp2_with fail
   refine hK _ _ (aA (aj aV (.cells (ae aW aQ) 47))) ?_
   clear hK K
   iterate 1 (refine aP (by kernel_rfl) (by kernel_rfl) (fun K hK=>?_);go_big_quiet_op;refine hK _ ?_;clear hK K)
   refine bV ?_
   have cO:=aj aV (.cells (ae aW aQ) 47)
   have hbx:=World.alloc_heap_new v2 (.cells (ae aW aQ) 47)
   have iY:W.heap.size≤v2.heap.size:=aV.size
   clear hv1 hv2 aV
   generalize (v2.alloc (.cells (ae aW aQ) 47))=V5 at *
   generalize v2.heap.size=bx at *
   exact⟨by first|rfl|trivial,bx,rfl,⟨cO,hbx,iY⟩⟩
  ·intro v1 hv1
   simp only[pick,List.getElem?_cons_zero,List.getElem?_cons_succ]
   iterate 11 (refine aP (by kernel_rfl) (by kernel_rfl) (fun K hK=>?_);go_big_quiet_op;refine hK _ ?_;clear hK K)
   refine aU (by rfl) (by rfl) (fun K hK=>?_)
   go_wp2_with fail
   refine hK _ _ (aA (aj hv1 _)) ?_
   clear hK K
   rw[←nN]
   have hz1:=World.alloc_heap_new v1 (.cells (ae aW aQ) 47)
   have eP:=aj hv1 (.cells (ae aW aQ) 47)
   generalize v1.alloc (.cells (ae aW aQ) 47)=Z at *
   refine aU (by rfl) (by rfl) (fun K hK=>?_)
   go_wp2_with fail
   refine(kT _ _ _ (hq'.later eP)).mono ?_
   rintro z v2 ⟨rfl,hv2⟩
   dsimp only
   have aV:=ag eP hv2
   refine hK _ _ (aA aV) ?_
   clear hK K
   have hz2:=aJ hv2 hz1
   have hcp:aS v2 v1.heap.size 0 17=true:=lY hz2 (by simp[go_sem])
   have cO:=Go.WW.Below.putRow (o:=0) (cs:=ae aW aQ) aV hv1.size
   iterate 5 (refine aP (by kernel_rfl) (by kernel_rfl) (fun K hK=>?_);go_big_quiet_op;refine hK _ ?_;clear hK K)
   refine aU (by rfl) (by rfl) (fun K hK=>?_)
   go_wp2_with fail
   refine hK _ _ (aA cO) ?_
   clear hK K
   iterate 1 (refine aP (by kernel_rfl) (by kernel_rfl) (fun K hK=>?_);go_big_quiet_op;refine hK _ ?_;clear hK K)
   refine bV ?_
   have hbx:=kM (o:=0) (cs:=ae aW aQ) hz2 (by simp[go_sem])
   rw[nZ (by simp[go_sem])]at hbx
   have iY:W.heap.size≤v1.heap.size:=hv1.size
   clear hv2 aV hz1 hz2 hcp eP
   generalize (putRow v2 v1.heap.size 0 (ae aW aQ))=V5 at *
   generalize v1.heap.size=bx at *
   exact⟨by first|rfl|trivial,bx,rfl,⟨cO,hbx,iY⟩⟩
 rintro bx V ⟨ed,hbx,hge⟩
 clear hlk hlk2 c0 c1 c2 c3 c4 f1 iJ
 have xI:=(gG ed (w.heap.size+1) 0 2 zo).trans hz
 obtain⟨xc,xf,xr,xl⟩:=aB hbx
 have zl:w.heap.size+1<V.heap.size:=by have:=ed.size;omega
 have hne:bx≠w.heap.size+1:=by omega
 go_wp2_with fail
 rw[←D9,JE V _ 0 (ah jT mG) (uN _ _) (by simp[go_sem]),xI,Fp]
 go_simp
 go_wp2_with fail
 have hrow:=iO (w:=V) (uN jT mG) xI
 exact bodyPost_ret (jE (by rfl) Tryz.underlying40 rfl (by kernel_rfl) rfl hrow) rfl ⟨rfl,Go.WW.Below.putRow (ag hB ed) (by omega)⟩
end Go.Proofs.YtfieenjdcpjmgaaGreatDoor
namespace Go.Proofs.YtfieenjdcpjmgaaGreatDoor
open Go.RowKit Go.WW
theorem alF(e p:Sl)(D:Db)(t:Sl)(q:az)(w:World)(he:jd w e.a D.entries)(hq:bn w t q):Calls Tryz.prog 42 #[.agg (ak e p D),.agg (ah t q)] w fun x w'=>x=.returned (.int .i64 (idxOf (fun d=>gq d q) D.entries))∧Below w.heap.size w w':=by
 have hl:D.entries.length≤4294967000:=he.1
 have hB:Below w.heap.size w ((w.alloc (.cells (ak e p D) 32)).alloc (.cells (ah t q) 40)):=((Below.refl _ _).alloc (Nat.le_refl _) _).alloc (by simp) _
 go_enter Tryz.func42,Tryz.ntmps42
 go_wp2_with fail
 go_loopw [5] (fun i wr=>Below ((w.alloc (.cells (ak e p D) 32)).alloc (.cells (ah t q) 40)).heap.size ((w.alloc (.cells (ak e p D) 32)).alloc (.cells (ah t q) 40)) wr∧∃k:Nat,k≤D.entries.length∧i=.int .i64 k∧Hid ((D.entries.take k).all (fun d=>!gq d q)=true)) (fun i _=>D.entries.length-(intOf i).toNat)
 case atStart=>exact⟨Below.refl _ _,0,Nat.zero_le _,rfl,by simp[Hid]⟩
 case round=>
  obtain⟨hbr,k,hk,rfl,hall⟩:=hrel
  obtain⟨hcc,aT,hrr⟩:=bg hbr
  by_cases hlt:k<D.entries.length
  ·have hki:(k:Int)<(D.entries.length:Int):=by omega
   obtain⟨b,o,r,ha,hc,hp⟩:=he.get k hlt
   have hb:b<w.heap.size:=gm hc
   have hb1:b<w.heap.size+1+1:=by omega
   cases hs:gq D.entries[k] q
   ·have HS:=Lib.hid (kW (p:=fun d=>!gq d q) D.entries k hlt hall.out (by simp[hs]))
    go_wp2_with fail
    refine dM hbr (by kernel_rfl) (by kernel_rfl) ?_
    repeat (go_big_quiet_step ((go_at_call 78;rename_i xw;exact Calls.gz (hs▸Gv _ _ _ _ _ ((hp.later hB).later xw.b) ((hq.later hB).later xw.b)))))
    refine wpQuiet_nil ?_
    intro w2 hb2
    go_wp2_with fail
    go_roundw
    case rel=>exact⟨hb2,k+1,by omega,by go_num,HS.out⟩
    case measure=>simp[intOf];omega
   ·have HS:=Lib.hid (KJ (f:=fun d=>gq d q) k hlt hall.out hs)
    go_wp2_with fail
    refine dM hbr (by kernel_rfl) (by kernel_rfl) ?_
    repeat (go_big_quiet_step ((go_at_call 78;rename_i xw;exact Calls.gz (hs▸Gv _ _ _ _ _ ((hp.later hB).later xw.b) ((hq.later hB).later xw.b)))))
    refine wpQuiet_nil ?_
    intro w2 hb2
    go_wp2_with fail
    go_ret
    exact⟨by rw[HS.out];rfl,hB.trans (hb2.mono (by simp;omega))⟩
  ·have HN:=Lib.hid (KL (l:=D.entries) (f:=fun d:Entry=>gq d q) k (by omega) hall.out)
   go_wp2_with fail
   go_ret
   exact⟨by rw[HN.out];rfl,hB.trans (hbr.mono (by simp;omega))⟩
end Go.Proofs.YtfieenjdcpjmgaaGreatDoor
namespace Go.WW
end Go.WW
namespace Go.Proofs.YtfieenjdcpjmgaaGreatDoor
open Go.RowKit Go.WW
theorem alG(cap:Nat)(w:World):(convert 61 9 (.slice none 0 cap)).run Tryz.prog w=.ok (.string ⟨#[]⟩) w:=by kernel_rfl
theorem alH(ad:Addr)(cap:Nat)(w:World):(convert 61 9 (.slice (some ad) 0 cap)).run Tryz.prog w=.ok (.string ⟨#[]⟩) w:=by kernel_rfl
theorem rW(a:Option Addr)(cap:Nat)(l:List UInt8)(w:World)(h:BytesAt w a l):(convert 61 9 (.slice a l.length cap)).run Tryz.prog w=.ok (.string ⟨l.toArray⟩) w:=by
 by_cases h0:l.length=0
 ·obtain rfl:l=[]:=List.eq_nil_of_length_eq_zero h0
  cases a with
  |none=>exact alG cap w
  |some ad=>exact alH ad cap w
 ·obtain⟨b,o,rfl,-⟩:=h.get 0 (by omega)
  exact J9 w 61 9 5 Tryz.underlying61 Tryz.underlying5 Tryz.underlying9 b o cap l (fun i hi=>h.at i hi)
end Go.Proofs.YtfieenjdcpjmgaaGreatDoor
namespace Go.Proofs
open Go.Shelf
def Tryz.lays115_ren:Go.Shelf.Ren:=⟨fun|115=>49|n=>n,fun|37=>61|4=>4|9=>9|5=>5|n=>n,fun|n=>n⟩
end Go.Proofs
namespace Go.Proofs.YtfieenjdcpjmgaaGreatDoor
open Go.RowKit Go.WW
theorem alI(a1 a2:Option Addr)(c d:Nat)(xs ys:List UInt8)(w:World)(h1:BytesAt w a1 xs)(h2:BytesAt w a2 ys):Calls Tryz.prog 49 #[.slice a1 xs.length c,.slice a2 ys.length d] w fun e w'=>e=.returned (.bool (decide (xs=ys)))∧Below w.heap.size w w':=by
 have k1:=rW a1 c xs w h1
 have k2:=rW a2 d ys w h2
 obtain⟨S1,hS1⟩:∃S,S=(ByteArray.mk xs.toArray):=⟨_,rfl⟩
 obtain⟨S2,hS2⟩:∃S,S=(ByteArray.mk ys.toArray):=⟨_,rfl⟩
 rw[←hS1]at k1
 rw[←hS2]at k2
 have HD:=Lib.hid (show(S1.toList == S2.toList)=decide (xs=ys) by
  rw[hS1,hS2,ByteArray.toList_eq,ByteArray.toList_eq]
  by_cases h:xs=ys
  ·subst h;simp
  ·simp[h])
 clear hS1 hS2
 rw[←HD.out]
 go_enter Tryz.func49,Tryz.ntmps49
 go_wp2_with fail
 go_ret
 exact⟨rfl,Below.refl _ _⟩
def sameKey(a b:Key):Bool:=(a.profile == b.profile)&&((a.version == b.version)&&decide (a.bytes=b.bytes))
end Go.Proofs.YtfieenjdcpjmgaaGreatDoor
namespace Go.WW
open Go.RowKit
def rX(a b:List UInt8):Bool:=decide (a=b)
def jP{α:Type}(eq:α→α→Bool):List α→List α→Bool
 | [],[]=>true
 |x::l,y::m=>eq x y&&jP eq l m
 |_,_=>false
theorem Ea{α:Type}{eq:α→α→Bool}:∀{a b:List α},a.length≠b.length→jP eq a b=false
 | [],[],h=>absurd rfl h
 | [],_::_,_=>rfl
 |_::_,[],_=>rfl
 |x::l,y::m,h=>by rw[jP,Ea (a:=l) (b:=m) (fun e=>h (by simp[e]))];simp
theorem Eb{α:Type}{eq:α→α→Bool}:∀{a b:List α} (k:Nat) (ha:k<a.length) (hb:k<b.length),eq a[k] b[k]=false→jP eq a b=false
 | [],_,_,ha,_,_=>by simp at ha
 |_::_,[],_,_,hb,_=>by simp at hb
 |x::l,y::m,0,_,_,h=>by rw[jP];simp at h;simp[h]
 |x::l,y::m,k+1,ha,hb,h=>by rw[jP,Eb k (by simpa using ha) (by simpa using hb) (by simpa using h)];simp
theorem Ec{α:Type}{eq:α→α→Bool}:∀{a b:List α},a.length=b.length→(∀k (ha:k<a.length) (hb:k<b.length),eq a[k] b[k]=true)→jP eq a b=true
 | [],[],_,_=>rfl
 | [],_::_,h,_=>by simp at h
 |_::_,[],h,_=>by simp at h
 |x::l,y::m,h,hk=>by
  rw[jP,Ec (a:=l) (b:=m) (by simpa using h) (fun k ha hb=>hk (k+1) (by simpa using ha) (by simpa using hb))]
  have:=hk 0 (by simp) (by simp)
  simpa using this
end Go.WW
namespace Go.Proofs.YtfieenjdcpjmgaaGreatDoor
open Go.RowKit Go.WW
def jQ(a b:bC):Bool:=(a.version == b.version)&&(jP sameKey a.keys b.keys&&((a.di.toList == b.di.toList)&&((a.dK == b.dK)&&(a.created == b.created))))
theorem XT(s t:Sl)(p q:Key)(w:World)(hp:kJ w s p)(hq:kJ w t q):Calls Tryz.prog 134 #[.agg (bZ s p),.agg (bZ t q)] w fun e w'=>e=.returned (.bool (sameKey p q))∧Below w.heap.size w w':=by
 have hB:Below w.heap.size w ((w.alloc (.cells (bZ s p) 69)).alloc (.cells (bZ t q) 69)):=((Below.refl _ _).alloc (Nat.le_refl _) _).alloc (by simp) _
 have k1:=rW s.a s.cap p.bytes _ (BytesAt.later hB hp)
 have k2:=rW t.a t.cap q.bytes _ (BytesAt.later hB hq)
 obtain⟨S1,hS1⟩:∃S,S=(ByteArray.mk p.bytes.toArray):=⟨_,rfl⟩
 obtain⟨S2,hS2⟩:∃S,S=(ByteArray.mk q.bytes.toArray):=⟨_,rfl⟩
 rw[←hS1]at k1
 rw[←hS2]at k2
 have HD:=Lib.hid (show(S1.toList == S2.toList)=decide (p.bytes=q.bytes) by
  rw[hS1,hS2,ByteArray.toList_eq,ByteArray.toList_eq]
  by_cases h:p.bytes=q.bytes
  ·rw[h];simp
  ·simp[h])
 clear hS1 hS2
 cases h1:(p.profile == q.profile)
 ·have HN:=Lib.hid (show sameKey p q=false by simp[sameKey,h1])
  rw[HN.out]
  go_enter Tryz.func134,Tryz.ntmps134
  go_wp2_with fail
  go_ret
  exact⟨rfl,hB⟩
 cases h2:(p.version == q.version)
 ·have HN:=Lib.hid (show sameKey p q=false by simp[sameKey,h2])
  rw[HN.out]
  go_enter Tryz.func134,Tryz.ntmps134
  go_wp2_with fail
  go_ret
  exact⟨rfl,hB⟩
 ·have HN:=Lib.hid (show sameKey p q=(S1.toList == S2.toList) by rw[HD.out];simp[sameKey,h1,h2])
  rw[HN.out]
  go_enter Tryz.func134,Tryz.ntmps134
  go_wp2_with fail
  go_ret
  exact⟨rfl,hB⟩
theorem NU(a1 a2:Option Addr)(c d:Nat)(xs ys:List az)(w:World)(h1:fJ w a1 xs)(h2:fJ w a2 ys):Calls Tryz.prog 71 #[.slice a1 xs.length c,.slice a2 ys.length d] w fun e w'=>e=.returned (.bool (jP aY xs ys))∧Below w.heap.size w w':=by
 have l1:xs.length≤4294967000:=h1.1
 have l2:ys.length≤4294967000:=h2.1
 by_cases hn:xs.length=ys.length
 ·have hne:((xs.length:Int) != (ys.length:Int))=false:=by simp[hn]
  by_cases h0:xs.length=0
  ·obtain rfl:xs=[]:=List.eq_nil_of_length_eq_zero h0
   obtain rfl:ys=[]:=List.eq_nil_of_length_eq_zero (by simpa using hn.symm)
   go_enter Tryz.func71,Tryz.ntmps71
   go_wp2_with fail
   refine wp_loop_rounds 1 ?_
   rw[rounds_succ]
   go_wp2_with fail
   go_ret
   exact⟨rfl,Below.refl _ _⟩
  rcases aX.addr h1 with e|⟨b1,o1,rfl,hb1⟩
  ·exact absurd e h0
  rcases aX.addr h2 with e|⟨b2,o2,rfl,hb2⟩
  ·exact absurd (hn.trans e) h0
  have HN:=Lib.hid hn
  clear hn h0
  go_enter Tryz.func71,Tryz.ntmps71
  go_wp2_with fail
  go_loopw [5] (fun i wr=>Below w.heap.size w wr∧∃k:Nat,k≤xs.length∧i=.int .i64 k∧Hid (∀j (ha:j<xs.length) (hb:j<ys.length),j<k→aY xs[j] ys[j]=true)) (fun i _=>xs.length-(intOf i).toNat)
  case atStart=>exact⟨Below.refl _ _,0,Nat.zero_le _,rfl,fun j _ _ h=>absurd h (Nat.not_lt_zero _)⟩
  case round=>
   obtain⟨hbr,k,hk,rfl,hall⟩:=hrel
   by_cases hlt:k<xs.length
   ·have hlt2:k<ys.length:=by have:=HN.out;omega
    have hki:(k:Int)<(xs.length:Int):=by omega
    have NV:(k:Int)<(ys.length:Int):=by omega
    obtain⟨t1,hc1,hp1⟩:=h1.at k hlt
    obtain⟨t2,hc2,hp2⟩:=h2.at k hlt2
    obtain⟨hcc,aT,hrr⟩:=bg hbr
    have hw1:=hb1
    have hw2:=hb2
    cases he:aY xs[k] ys[k]
    ·have HF:=Lib.hid (Eb (eq:=aY) k hlt hlt2 he)
     go_wp2_with fail
     refine dM hbr (by kernel_rfl) (by kernel_rfl) ?_
     repeat (go_big_quiet_step ((go_at_call 27;rename_i xw;exact Calls.gz (he▸nV _ _ _ _ _ (hp1.later (by exact xw.b)) (hp2.later (by exact xw.b))))))
     refine wpQuiet_nil ?_
     intro w2 dW
     go_wp2_with fail
     go_ret
     exact⟨by rw[HF.out];rfl,dW⟩
    ·have HS:=Lib.hid (show ∀j (ha:j<xs.length) (hb:j<ys.length),j<k+1→aY xs[j] ys[j]=true from fun j ha hb hj=>by
      by_cases e:j=k
      ·subst e;exact he
      ·exact hall.out j ha hb (by omega))
     go_wp2_with fail
     refine dM hbr (by kernel_rfl) (by kernel_rfl) ?_
     repeat (go_big_quiet_step ((go_at_call 27;rename_i xw;exact Calls.gz (he▸nV _ _ _ _ _ (hp1.later (by exact xw.b)) (hp2.later (by exact xw.b))))))
     refine wpQuiet_nil ?_
     intro w2 dW
     go_wp2_with fail
     go_roundw
     case rel=>exact⟨dW,k+1,by omega,by go_num,HS.out⟩
     case measure=>simp[intOf];omega
   ·have HS:=Lib.hid (Ec (eq:=aY) HN.out (fun j ha hb=>hall.out j ha hb (by omega)))
    go_wp2_with fail
    go_ret
    exact⟨by rw[HS.out];rfl,hbr⟩
 ·have hne:((xs.length:Int) != (ys.length:Int))=true:=by simp;omega
  have HF:=Lib.hid (Ea (eq:=aY) hn)
  clear hn
  go_enter Tryz.func71,Tryz.ntmps71
  go_wp2_with fail
  go_ret
  exact⟨by rw[HF.out];rfl,Below.refl _ _⟩
theorem XU(s t:Sl)(p q:bC)(w:World)(hp:jA w s p)(hq:jA w t q):Calls Tryz.prog 70 #[.agg (bz s p),.agg (bz t q)] w fun e w'=>e=.returned (.bool (jQ p q))∧Below w.heap.size w w':=by
 have hB:Below w.heap.size w ((w.alloc (.cells (bz s p) 67)).alloc (.cells (bz t q) 67)):=((Below.refl _ _).alloc (Nat.le_refl _) _).alloc (by simp) _
 obtain⟨R,hR⟩:∃R,R=jQ p q:=⟨_,rfl⟩
 rw[←hR]
 have HR:=Lib.hid hR
 clear hR
 have l1:p.keys.length≤4294967000:=hp.1.1
 have l2:q.keys.length≤4294967000:=hq.1.1
 go_enter Tryz.func70,Tryz.ntmps70
 cases g0:(p.version == q.version)
 ·have g0':(p.version != q.version)=true:=by simp only[bne,g0];rfl
  have HN:=Lib.hid (show jQ p q=false by simp[jQ,g0])
  go_wp2_with fail
  go_ret
  exact⟨by rw[HR.out,HN.out];rfl,hB⟩
 have g0':(p.version != q.version)=false:=by simp only[bne,g0];rfl
 cases g1:(p.di.toList == q.di.toList)
 ·have g1':(p.di.toList != q.di.toList)=true:=by simp only[bne,g1];rfl
  have HN:=Lib.hid (show jQ p q=false by simp[jQ,g1])
  go_wp2_with fail
  go_ret
  exact⟨by rw[HR.out,HN.out];rfl,hB⟩
 have g1':(p.di.toList != q.di.toList)=false:=by simp only[bne,g1];rfl
 cases g2:(p.dK == q.dK)
 ·have g2':(p.dK != q.dK)=true:=by simp only[bne,g2];rfl
  have HN:=Lib.hid (show jQ p q=false by simp[jQ,g2])
  go_wp2_with fail
  go_ret
  exact⟨by rw[HR.out,HN.out];rfl,hB⟩
 have g2':(p.dK != q.dK)=false:=by simp only[bne,g2];rfl
 cases g3:(p.created == q.created)
 ·have g3':(p.created != q.created)=true:=by simp only[bne,g3];rfl
  have HN:=Lib.hid (show jQ p q=false by simp[jQ,g3])
  go_wp2_with fail
  go_ret
  exact⟨by rw[HR.out,HN.out];rfl,hB⟩
 have g3':(p.created != q.created)=false:=by simp only[bne,g3];rfl
 by_cases hn:p.keys.length=q.keys.length
 ·have hne:((p.keys.length:Int) != (q.keys.length:Int))=false:=by simp[hn]
  have HL:=Lib.hid (show jQ p q=jP sameKey p.keys q.keys by simp[jQ,g0,g1,g2,g3])
  have HN:=Lib.hid hn
  clear hn
  go_wp2_with fail
  clear g0 g1 g2 g3 g0' g1' g2' g3'
  go_loopw [5] (fun i wr=>Below ((w.alloc (.cells (bz s p) 67)).alloc (.cells (bz t q) 67)).heap.size ((w.alloc (.cells (bz s p) 67)).alloc (.cells (bz t q) 67)) wr∧∃k:Nat,k≤p.keys.length∧i=.int .i64 k∧Hid (∀j (ha:j<p.keys.length) (hb:j<q.keys.length),j<k→sameKey p.keys[j] q.keys[j]=true)) (fun i _=>p.keys.length-(intOf i).toNat)
  case atStart=>exact⟨Below.refl _ _,0,Nat.zero_le _,rfl,fun j _ _ h=>absurd h (Nat.not_lt_zero _)⟩
  case round=>
   obtain⟨hbr,k,hk,rfl,hall⟩:=hrel
   obtain⟨hcc,aT,hrr⟩:=bg hbr
   have hsz:w.heap.size+1<wr.heap.size:=by have:=hbr.size;simp at this;omega
   have hsz0:w.heap.size<wr.heap.size:=by omega
   by_cases hlt:k<p.keys.length
   ·have hlt2:k<q.keys.length:=by have:=HN.out;omega
    have hki:(k:Int)<(p.keys.length:Int):=by omega
    have NV:(k:Int)<(q.keys.length:Int):=by omega
    obtain⟨b1,o1,t1,ha1,hc1,hp1⟩:=hp.1.get k hlt
    obtain⟨b2,o2,t2,ha2,hc2,hp2⟩:=hq.1.get k hlt2
    have hb1:b1<w.heap.size:=gm hc1
    have hb1':b1<w.heap.size+1+1:=by omega
    have hb2:b2<w.heap.size:=gm hc2
    have hb2':b2<w.heap.size+1+1:=by omega
    cases he:sameKey p.keys[k] q.keys[k]
    ·have HF:=Lib.hid (Eb (eq:=sameKey) k hlt hlt2 he)
     go_wp2_with fail
     refine dM hbr (by kernel_rfl) (by kernel_rfl) ?_
     repeat (go_big_quiet_step ((go_at_call 134;rename_i xw;exact Calls.gz (he▸XT _ _ _ _ _ (kJ.later (hB.trans (xw.b.mono (by simp;omega))) hp1) (kJ.later (hB.trans (xw.b.mono (by simp;omega))) hp2)))))
     refine wpQuiet_nil ?_
     intro w2 dW
     go_wp2_with fail
     go_ret
     exact⟨by rw[HR.out,HL.out,HF.out];rfl,hB.trans (dW.mono (by simp;omega))⟩
    ·have HS:=Lib.hid (show ∀j (ha:j<p.keys.length) (hb:j<q.keys.length),j<k+1→sameKey p.keys[j] q.keys[j]=true from fun j ha hb hj=>by
      by_cases e:j=k
      ·subst e;exact he
      ·exact hall.out j ha hb (by omega))
     go_wp2_with fail
     refine dM hbr (by kernel_rfl) (by kernel_rfl) ?_
     repeat (go_big_quiet_step ((go_at_call 134;rename_i xw;exact Calls.gz (he▸XT _ _ _ _ _ (kJ.later (hB.trans (xw.b.mono (by simp;omega))) hp1) (kJ.later (hB.trans (xw.b.mono (by simp;omega))) hp2)))))
     refine wpQuiet_nil ?_
     intro w2 dW
     go_wp2_with fail
     go_roundw
     case rel=>exact⟨dW,k+1,by omega,by go_num,HS.out⟩
     case measure=>simp[intOf];omega
   ·have HS:=Lib.hid (Ec (eq:=sameKey) HN.out (fun j ha hb=>hall.out j ha hb (by omega)))
    go_wp2_with fail
    go_ret
    exact⟨by rw[HR.out,HL.out,HS.out];rfl,hB.trans (hbr.mono (by simp;omega))⟩
 ·have hne:((p.keys.length:Int) != (q.keys.length:Int))=true:=by simp;omega
  have HF:=Lib.hid (show jQ p q=false by simp[jQ,Ea (eq:=sameKey) hn])
  clear hn
  go_wp2_with fail
  go_ret
  exact⟨by rw[HR.out,HF.out];rfl,hB⟩
end Go.Proofs.YtfieenjdcpjmgaaGreatDoor
