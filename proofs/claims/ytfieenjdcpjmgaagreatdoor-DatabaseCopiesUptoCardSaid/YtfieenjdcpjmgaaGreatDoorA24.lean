/- A part of the proof. -/
import Derived.Test.YtfieenjdcpjmgaaGreatDoorA09
import Derived.Test.YtfieenjdcpjmgaaGreatDoorA23
import Derived.Carry
import Derived.Deep.DeepHandedRow
import Derived.Test.YtfieenjdcpjmgaaGreatDoorA03
import Derived.Shelf.SlMaps.Clone
import Derived.Laws.Externs
set_option maxRecDepth 2000000
set_option maxHeartbeats 16000000
namespace Go.WW
open Go.RowKit
theorem akV(z:jm)(x:dX):(bZ z x).toList=[.int .u8 x.k.toNat]++((ae z.r x.d).toList++((ai z.t x.q).toList++([.int .i64 x.a,.int .i64 x.b,.int .i64 x.c]++(aG x.p).toList))):=by
 unfold bZ;simp only[Array.toList_append]
end Go.WW
namespace Go.Proofs.YtfieenjdcpjmgaaGreatDoor
open Go.ChangeShapes Go.WideShapes Go.ChangeAt Go.RowKit Go.WW Go.Deep
theorem akW(cs:List Value)(h:cs.length=33):cs=(cs.drop 0).take 1++((cs.drop 1).take 17++((cs.drop 18).take 2++((cs.drop 20).take 3++(cs.drop 23).take 10))):=by
 have e5:(cs.drop 23).take 10=cs.drop 23:=List.take_of_length_le (by simp[h])
 have e4:(cs.drop 20).take 3++cs.drop 23=cs.drop 20:=by
  have:=List.take_append_drop 3 (cs.drop 20);rwa[List.drop_drop]at this
 have e3:(cs.drop 18).take 2++cs.drop 20=cs.drop 18:=by
  have:=List.take_append_drop 2 (cs.drop 18);rwa[List.drop_drop]at this
 have e2:(cs.drop 1).take 17++cs.drop 18=cs.drop 1:=by
  have:=List.take_append_drop 17 (cs.drop 1);rwa[List.drop_drop]at this
 rw[e5,e4,e3,e2,List.drop_zero]
 exact(List.take_append_drop 1 cs).symm
theorem Xw:Tryz.prog.cellsOf 52=33:=by kernel_rfl
theorem Xx:Tryz.prog.cellsOf 48=3:=by kernel_rfl
section
variable {H:Type} {enc:TypeId×Value→H} {w:World} {base:Nat} {spare:Nat→Bool} {held:Bool} {fuel:Nat} {x:DataW H×List MemPlace}
theorem akX{cs:List Value}(h:DataW.trod enc Tryz.prog w base spare held fuel 48 cs=some x):∃a b c:Int,cs=[.int .i64 a,.int .i64 b,.int .i64 c]:=by
 obtain⟨xs,m,_,_,hl,hx,hel⟩:=DataW.trod_array Tryz.underlying48 h
 rw[Xx]at hl
 obtain⟨c0,c1,c2,rfl⟩:=SX hl
 have each:∀i (c:Value),i<3→[c0,c1,c2][i]?=some c→∃n:Int,c=.int .i64 n:=fun i c hi hc=>by
  have:=hel i hi
  rw[jF,Nat.mul_one,take_one hc,List.getElem?_eq_getElem (by omega)]at this
  exact jG this
 obtain⟨a,rfl⟩:=each 0 c0 (by omega) rfl
 obtain⟨b,rfl⟩:=each 1 c1 (by omega) rfl
 obtain⟨c,rfl⟩:=each 2 c2 (by omega) rfl
 exact⟨a,b,c,rfl⟩
theorem Xy{cs:List Value}(h:DataW.trod enc Tryz.prog w base spare held fuel 52 cs=some x)(hb:Rows.uptoBulk x.1≤1048576) :
  ∃z y,cs=(bZ z y).toList∧o9 w z y:=by
 obtain⟨hl,n,hf⟩:=Ai Tryz.underlying52 h hb
 rw[Xw]at hl
 obtain⟨y0,t0,-⟩:=hf 0 _ rfl
 obtain⟨y1,t1,b1⟩:=hf 1 _ rfl
 obtain⟨y2,t2,b2⟩:=hf 2 _ rfl
 obtain⟨y3,t3,-⟩:=hf 3 _ rfl
 obtain⟨y4,t4,b4⟩:=hf 4 _ rfl
 replace t0:DataW.trod enc Tryz.prog w base spare held n 5 ((cs.drop 0).take (Tryz.prog.cellsOf 5))=some y0:=t0
 replace t1:DataW.trod enc Tryz.prog w base spare held n 47 ((cs.drop 1).take (Tryz.prog.cellsOf 47))=some y1:=t1
 replace t2:DataW.trod enc Tryz.prog w base spare held n 40 ((cs.drop 18).take (Tryz.prog.cellsOf 40))=some y2:=t2
 replace t3:DataW.trod enc Tryz.prog w base spare held n 48 ((cs.drop 20).take (Tryz.prog.cellsOf 48))=some y3:=t3
 replace t4:DataW.trod enc Tryz.prog w base spare held n 50 ((cs.drop 23).take (Tryz.prog.cellsOf 50))=some y4:=t4
 rw[SY]at t0
 rw[Tf]at t1
 rw[FY]at t2
 rw[Xx]at t3
 rw[Ti]at t4
 have hs:=akW cs hl
 obtain⟨c0,hc0⟩:∃c0,(cs.drop 0).take 1=[c0]:=JS (by simp;omega)
 rw[hc0]at t0
 obtain⟨k,rfl⟩:=Tm t0
 obtain⟨r,d,he,hat⟩:=afq t1 b1
 obtain⟨s,p,hp,hpa⟩:=JV t2 b2
 obtain⟨a,b,c,hn⟩:=akX t3
 obtain⟨q,hq,Ii⟩:=afz t4 b4
 rw[hc0,he,hp,hn,hq]at hs
 refine⟨⟨r,s⟩,⟨k,d,p,a,b,c,q⟩,?_,⟨hat,hpa,Ii⟩⟩
 rw[akV];exact hs
theorem akY{v:Value}(h:DataW.trod enc Tryz.prog w base spare held fuel 22 [v]=some x)(hb:Rows.uptoBulk x.1≤1048576):∃(s:Sl) (l:List dX),v=.slice s.a l.length s.cap∧pg w s.a l:=by
 obtain⟨s,n,hv,hn,hel⟩:=yl Tryz.underlying22 Xw (by omega) h hb
 obtain⟨l,hl,hr⟩:=wJ (R:=fun i (a:dX)=>∃b o z,s.a=some ⟨b,o,none⟩∧row? w b (o+i*33) 33=some (bZ z a)∧o9 w z a) (n:=n) (fun i hi=>by
  obtain⟨b,o,cs,f',y,ha,hrow,ht,hby⟩:=hel i hi
  obtain⟨z,p,hcs,hp⟩:=Xy ht hby
  exact⟨p,b,o,z,ha,by rw[hrow,←Array.toList_inj.1 hcs],hp⟩)
 refine⟨s,l,by rw[hl];exact hv,by rw[hl];exact wK hn,fun i hi=>?_⟩
 obtain⟨b,o,z,h1,h2,h3⟩:=hr i l[i] (List.getElem?_eq_getElem hi)
 exact⟨b,o,_,h1,h2,l[i],z,List.getElem?_eq_getElem hi,rfl,h3⟩
end
theorem laidOut:laidOutB Tryz.prog=true:=by kernel_rfl
theorem akZ:Tryz.prog.readableRec 22=true:=by kernel_rfl
theorem Xz:Tryz.prog.readableRec 52=true:=by kernel_rfl
theorem ak0:22<Tryz.prog.types.size:=of_decide_eq_true (by kernel_rfl)
theorem XA:52<Tryz.prog.types.size:=of_decide_eq_true (by kernel_rfl)
section
variable {H:Type} {enc:TypeId×Value→H}
theorem ak1{W:World}{b0:Nat}{v:Value}{d:DataW H}{p:List MemPlace}(_hv:Value.okWide Tryz.prog W .any b0 22 v)(h:DataW.Trod enc Tryz.prog W 0 (fun _=>true) true 22 v d p)(hb:Rows.uptoBulk d≤1048576) :
  ∃(s:Sl) (l:List dX),v=.slice s.a l.length s.cap∧pg W s.a l:=by
 obtain⟨a,len,cap,rfl⟩:=okWide_slice Tryz.underlying22 _hv
 obtain⟨fuel,hf⟩:=h
 exact akY (x:=(d,p)) hf hb
theorem XB{W:World}{b0:Nat}{v:Value}{d:DataW H}{p:List MemPlace}(hv:Value.okWide Tryz.prog W .any b0 52 v)(h:DataW.Trod enc Tryz.prog W 0 (fun _=>true) true 52 v d p)(hb:Rows.uptoBulk d≤1048576) :
  ∃(z:jm) (x:dX),v=.agg (bZ z x)∧o9 W z x:=by
 obtain⟨cs,rfl,_⟩:=okWide_struct Tryz.underlying52 hv
 obtain⟨fuel,hf⟩:=h
 obtain⟨z,y,he,hat⟩:=Xy hf hb
 have h1:cs=bZ z y:=Array.toList_inj.1 he
 exact⟨z,y,by rw[h1],hat⟩
theorem stays{W W':World}{t:TypeId}{v:Value}{d:DataW H}{ps:List MemPlace}(hr:Tryz.prog.readableRec t=true)(hrow:t<Tryz.prog.types.size)(h:DataW.Trod enc Tryz.prog W 0 (fun _=>true) true t v d ps)(hb:Below W.heap.size W W')(hlt:∀x∈ps,x.block<W.heap.size)
  {sp:Nat→Bool} (hsp:∀x∈ps,sp x.block=true):DataW.Trod enc Tryz.prog W' 0 sp true t v d ps:=
 WideElems.Trod_stays laidOut hr hrow h (fun x hx=>hb.same (hlt x hx)) hsp
theorem ak2{f:Func}{s:ChangeSpec}{fresh handsOn again apart:Bool}{W W':World}{args:Array Value}{v:Value}{ds:List (DataW H)}{before:List MemPlace}
  (hW:DataW.Whole enc Tryz.prog f.params.toList s.vars apart W args.toList ds [] before)
  (hres:∀(b:Nat) (sp:Nat→Bool) (hd:Bool),DataW.TrodAll enc Tryz.prog W' b sp hd f.resultTypes.toList (v.resultList f.resultTypes.size) (s.fn H (ds++[])).results [])
  (hargs:∀sp:Nat→Bool,(∀p∈before,sp p.block=true)→DataW.TrodAll enc Tryz.prog W' 0 sp true f.params.toList args.toList (s.fn H (ds++[])).args before)
  (hvars:∀sp:Nat→Bool,DataW.TrodVars enc Tryz.prog W' sp s.vars (s.fn H (ds++[])).vars [])
  (hb:Below W.heap.size W W') (hok:∀(j:Nat) (t:TypeId) (r:Value),f.resultTypes[j]?=some t→(v.resultList f.resultTypes.size)[j]?=some r→Value.okWide Tryz.prog W' .any 0 t r) :
  s.post enc Tryz.prog f apart fresh handsOn again W args v W':=by
 have hold:∀q∈before,decide (q.block<W.heap.size)=true:=fun q hq=>by simpa using hW.lt q hq
 have hlt:=hW.lt
 refine⟨ds,[],before,[],before,[],hW,hres _ _ _,hargs _ hold,hvars _,World.keptBut_mono (fun q hq=>⟨hq,.inr (.inl hq)⟩) (hb.frame (·∈before)),fun _=>?_⟩
 obtain⟨_,_,_,_,_,hz,hn⟩:=hW
 refine⟨hok,_,_,([]++before)++[],⟨[]++before,[],trodAll_append (hargs _ (fun _ _=>rfl)) (hres _ _ _),hvars _,rfl,fun b off hq=>?_,fun ha=>?_⟩,fun q hq _=>?_⟩
 ·have hin:MemPlace.cell b off∈before:=by simpa using hq
  rw[hb.frozen (hlt _ hin)]
  exact hz b off hin
 ·simpa using hn ha
 ·simpa using hq
end
end Go.Proofs.YtfieenjdcpjmgaaGreatDoor
namespace Go.Proofs
open Go.RowKit
theorem Tryz.cloneS(b:Nat)(es:Array MapEntry)(clock:Nat)(w:World)(hb:w.heap[b]?=some (.map es clock)) :
  Calls Tryz.prog 46 #[.map (some b)] w fun e w'=>e=.returned (.map (some w.heap.size))∧w'=w.alloc (.map es clock):=by
 have hq:=fun w=>run_eql_map_nil_sl (P:=Tryz.prog) w 84 _ _ (some b) Tryz.underlying84
 go_enter Tryz.func46,Tryz.ntmps46
 go_wp2
 rw[run_callFunc_extern Tryz.func82 (by kernel_rfl) (by kernel_rfl) (by kernel_rfl) (e:=Extern.MapsClone.clone) (by kernel_rfl),run_maps_clone_sl w 84 hb]
 simp only[Result.andThen]
 rw[Oper.upon_value]
 go_wp2
 rw[run_typeAssert_map_sl _ 84 20 _ _ _ Tryz.underlying84]
 simp only[Result.andThen]
 rw[Oper.upon_value]
 go_wp2
 go_ret
 exact⟨rfl,rfl⟩
theorem Tryz.ak3(b:Nat)(es:Array MapEntry)(clock:Nat)(w:World)(hb:w.heap[b]?=some (.map es clock)) :
  Calls Tryz.prog 47 #[.map (some b)] w fun e w'=>e=.returned (.map (some w.heap.size))∧w'=w.alloc (.map es clock):=by
 have hq:=fun w=>run_eql_map_nil_sl (P:=Tryz.prog) w 85 _ _ (some b) Tryz.underlying85
 go_enter Tryz.func47,Tryz.ntmps47
 go_wp2
 rw[run_callFunc_extern Tryz.func82 (by kernel_rfl) (by kernel_rfl) (by kernel_rfl) (e:=Extern.MapsClone.clone) (by kernel_rfl),run_maps_clone_sl w 85 hb]
 simp only[Result.andThen]
 rw[Oper.upon_value]
 go_wp2
 rw[run_typeAssert_map_sl _ 85 20 _ _ _ Tryz.underlying85]
 simp only[Result.andThen]
 rw[Oper.upon_value]
 go_wp2
 go_ret
 exact⟨rfl,rfl⟩
theorem Tryz.ak4(b:Nat)(es:Array MapEntry)(clock:Nat)(w:World)(hb:w.heap[b]?=some (.map es clock)) :
  Calls Tryz.prog 48 #[.map (some b)] w fun e w'=>e=.returned (.map (some w.heap.size))∧w'=w.alloc (.map es clock):=by
 have hq:=fun w=>run_eql_map_nil_sl (P:=Tryz.prog) w 86 _ _ (some b) Tryz.underlying86
 go_enter Tryz.func48,Tryz.ntmps48
 go_wp2
 rw[run_callFunc_extern Tryz.func82 (by kernel_rfl) (by kernel_rfl) (by kernel_rfl) (e:=Extern.MapsClone.clone) (by kernel_rfl),run_maps_clone_sl w 86 hb]
 simp only[Result.andThen]
 rw[Oper.upon_value]
 go_wp2
 rw[run_typeAssert_map_sl _ 86 20 _ _ _ Tryz.underlying86]
 simp only[Result.andThen]
 rw[Oper.upon_value]
 go_wp2
 go_ret
 exact⟨rfl,rfl⟩
end Go.Proofs
namespace Go.Proofs.YtfieenjdcpjmgaaGreatDoor
open Go.RowKit Go.WW
theorem six{P:Prop}{k:Nat}(k0:k % 6=0→P)(k1:k % 6=1→P)(k2:k % 6=2→P)(k3:k % 6=3→P)(k4:k % 6=4→P)(k5:k % 6=5→P):P:=by
 rcases(by omega:k % 6=0∨k % 6=1∨k % 6=2∨k % 6=3∨k % 6=4∨k % 6=5)with h|h|h|h|h|h
 ·exact k0 h
 ·exact k1 h
 ·exact k2 h
 ·exact k3 h
 ·exact k4 h
 ·exact k5 h
theorem Ij(S:Nat→Prop)(b n e p:Nat)(re:ByteArray)(es ps:Sl)(D:Db)(X:List EE)(N:Nat)(W0:World)(z:jm)(x:dX)(w:World)(h:iJ S b n e p re es ps D X N w)(hre:¬re=⟨#[]⟩)(hN:N<60)(hW:Below W0.heap.size W0 w)(hx:o9 W0 z x)(hS0:∀k,S k→W0.heap.size≤k):Calls Tryz.prog 10 #[.pointer (some ⟨b,0,none⟩),.agg (au es ps D),.agg (bZ z x)] w (Xv S b n e p re N w):=by
 obtain⟨NL,E,P,hP0,hR0⟩:=h.ex
 have hd0:=h.d0
 have hd1:=h.d1
 have hn1:=h.n1
 have hn2:=h.n2
 have hPl:P.length<64:=by have:=hR0.dQ.perm.length_eq;omega
 have n0:∀k,w.heap.size≤k→¬aU b n e p k:=fun k hk hd=>by have:=hP0.lt k hd;omega
 have HH:=Lib.hid h
 have Ba:=Lib.hid hP0
 have HR0:=Lib.hid hR0
 have HX:=Lib.hid hx
 have N0:=Lib.hid n0
 have Nr:=Lib.hid hS0
 clear h hP0 hR0 hx n0 hS0
 go_enter Tryz.func10,Tryz.ntmps10
 go_step
 apply MN (M:=fun V=>Below w.heap.size w V∧V.heap[w.heap.size]?=some (.cells (au es ps D) 32)∧V.heap[w.heap.size+1]?=some (.cells (bZ z x) 52)∧V.heap[w.heap.size+2]?=some (.cells (au aW aW iY) 32)∧w.heap.size+3≤V.heap.size)
 case h1=>
  go_wp2_with fail
  rw[←Hy]
  exact⟨rfl,⟨aj (aj (aj (Below.refl _ w) _) _) _,by rw[Below.heap_alloc _ _ _ (by simp;omega)];exact jQ w _ _,by have:=jQ (w.alloc (.cells (au es ps D) 32)) (.cells (bZ z x) 52) (.cells (au aW aW iY) 32);simpa using this,by have:=World.alloc_heap_new ((w.alloc (.cells (au es ps D) 32)).alloc (.cells (bZ z x) 52)) (.cells (au aW aW iY) 32);simpa using this,by simp⟩⟩
 rintro V0 ⟨hB0,hv4,hv5,hv6,hs0⟩
 iterate 3 go_step
 obtain⟨hc5,hf5,rO,hl5⟩:=aC hv5
 apply uu (M:=fun(a8:Nat) V=>Below V0.heap.size V0 V∧w.heap.size+3≤a8∧V.heap[a8]?=some (.cells (mX x) 48))
 case h1=>
  go_wp2_with fail
  refine⟨V0.heap.size,?_,⟨aj (Below.refl _ V0) _,hs0,World.alloc_heap_new V0 _⟩⟩
  generalize V0.heap.size=a8
  rfl
 rintro a8 V1 ⟨hB1,ha8,Ns⟩
 have hx4:=aJ hB1 hv4
 have hx5:=aJ hB1 hv5
 have hx6:=aJ hB1 hv6
 have iV:=ag hB0 hB1
 have aqi:a8<V1.heap.size:=(Array.getElem?_eq_some_iff.1 Ns).1
 have hs1:w.heap.size+3<V1.heap.size:=by omega
 have hW1:Below W0.heap.size W0 V1:=hW.trans (iV.mono hW.size)
 have hWs:=hW.size
 clear hc5 hf5 rO hl5 hv4 hv5 hv6 hB0 hB1 hs0
 obtain⟨hc4,hf4,hr4,hl4⟩:=aC hx4
 obtain⟨hc5,hf5,rO,hl5⟩:=aC hx5
 obtain⟨hc8,GY,og,Ik⟩:=aC Ns
 refine six (k:=x.k.toNat) ?k0 ?k1 ?k2 ?k3 ?k4 ?k5
 case' k0=>
  intro hk
  have jI:((x.k.toNat:Int).tmod 6)=0:=by rw[Int.tmod_eq_emod_of_nonneg (by omega)];omega
 case' k1=>
  intro hk
  have jI:((x.k.toNat:Int).tmod 6)=1:=by rw[Int.tmod_eq_emod_of_nonneg (by omega)];omega
 case' k2=>
  intro hk
  have jI:((x.k.toNat:Int).tmod 6)=2:=by rw[Int.tmod_eq_emod_of_nonneg (by omega)];omega
 case' k3=>
  intro hk
  have jI:((x.k.toNat:Int).tmod 6)=3:=by rw[Int.tmod_eq_emod_of_nonneg (by omega)];omega
 case' k4=>
  intro hk
  have jI:((x.k.toNat:Int).tmod 6)=4:=by rw[Int.tmod_eq_emod_of_nonneg (by omega)];omega
 case' k5=>
  intro hk
  have jI:((x.k.toNat:Int).tmod 6)=5:=by rw[Int.tmod_eq_emod_of_nonneg (by omega)];omega
 case' k2|k3|k4|k5=>
  obtain⟨S1,hS1⟩:∃S1:Nat→Prop,S1=fun k=>S k∨span w.heap.size V1.heap.size k:=⟨_,rfl⟩
  have iP:=Lib.hid hS1
  clear hS1
  have hwc:w.heap.size<V1.heap.size:=by omega
  have ak5:w.heap.size+2<V1.heap.size:=by omega
  have Nu:=Lib.hid (show ∀k,S1 k→k<V1.heap.size from fun k hk=>by
   rw[iP.out]at hk
   rcases hk with hk|hk
   ·have:=HH.out.lt k hk;omega
   ·exact hk.2)
  have hP1:jB S1 b n e p re D.ay NL E P V1:=(Ba.out.grow (S':=S1) (fun k hk hlt=>by rw[iP.out]at hk;exact hk.elim id fun h=>by have:=h.1;omega) (fun k hk=>by rw[iP.out];exact .inl hk)).later iV
 case' k2=>
  obtain⟨no,D',X',hst⟩:=ai4 D X x.q
  go_wp2_with fail
  refine(WC S1 b n e p re D.ay NL E P D D' X X' no V1 z.t x.q hP1 hre HR0.out hst (HX.out.A7.later hW1) hd0 (by omega)).mono ?_
  rintro y w3 ⟨rfl,kU,mV,E',P',hP3,cZ⟩
  dsimp only
 case' k3=>
  obtain⟨no,D',X',hst⟩:=ai5 D X x.q x.a x.b x.c
  go_wp2_with fail
  refine(ajp S1 b n e p re D.ay NL E P D D' X X' no V1 z.t x.q x.a x.b x.c hP1 hre HR0.out hst (HX.out.A7.later hW1) hd0 (by omega)).mono ?_
  rintro y w3 ⟨rfl,kU,mV,E',P',hP3,cZ⟩
  dsimp only
 case' k4=>
  obtain⟨no,D',hst⟩:=ai2 D x.p
  go_wp2_with fail
  refine(WB S1 b n e p re D.ay NL E P D D' X no V1 x.p hP1 hre HR0.out hst HX.out.Ih hPl hd0 (by omega)).mono ?_
  rintro y w3 ⟨rfl,kU,mV,E',P',hP3,cZ⟩
  dsimp only
 case' k5=>
  obtain⟨no,D',hst⟩:=ai6 D x.p.name
  go_wp2_with fail
  refine(WE S1 b n e p re D.ay NL E P D D' X no V1 x.p.name hP1 hre HR0.out hst hd0 (by omega)).mono ?_
  rintro y w3 ⟨rfl,kU,mV,E',P',hP3,cZ⟩
  dsimp only
 case' k0|k1=>
  obtain⟨no,D',X',hst⟩:=ai3 D HR0.out.xh z.r x.d
  go_wp2_with fail
  refine(aka W0 z.r x.d V1 hW1 HX.out.DT).mono ?_
  rintro y w1 ⟨r',rfl,hb1,hE1⟩
  dsimp only
  have hs1':V1.heap.size≤w1.heap.size:=hb1.size
  have XC:=Lib.hid hE1
  clear hE1
  obtain⟨S1,hS1⟩:∃S1:Nat→Prop,S1=fun k=>S k∨span w.heap.size w1.heap.size k:=⟨_,rfl⟩
  have iP:=Lib.hid hS1
  clear hS1
  have hwc:w.heap.size<w1.heap.size:=by omega
  have ak5:w.heap.size+2<w1.heap.size:=by omega
  have Nu:=Lib.hid (show ∀k,S1 k→k<w1.heap.size from fun k hk=>by
   rw[iP.out]at hk
   rcases hk with hk|hk
   ·have:=HH.out.lt k hk;omega
   ·exact hk.2)
  have hP1:jB S1 b n e p re D.ay NL E P V1:=(Ba.out.grow (S':=S1) (fun k hk hlt=>by rw[iP.out]at hk;exact hk.elim id fun h=>by have:=h.1;omega) (fun k hk=>by rw[iP.out];exact .inl hk)).later iV
  have hB2:Below V1.heap.size V1 (w1.alloc (.cells (ae r' x.d) 47)):=aj hb1 _
  have hnew:=World.alloc_heap_new w1 (.cells (ae r' x.d) 47)
  have Il:Below w1.heap.size w1 (w1.alloc (.cells (ae r' x.d) 47)):=aj (Below.refl _ w1) _
  go_wp2_with fail
  generalize w1.alloc (.cells (ae r' x.d) 47)=w2 at *
  refine(WA S1 b n e p re D.ay NL E P D D' X X' no w2 z.r x.d r' (hP1.later hB2) hre HH.out.aF HR0.out hst (XC.out w2 (But.of_below Il)).at_ (fun k hk=>Nat.lt_of_lt_of_le (Nu.out k hk) Il.size) (by omega) hd0 (by omega)).mono ?_
  rintro y w3 ⟨rfl,rU,mV,E',P',hP3,cZ⟩
  dsimp only
  have kU:But (aU b n e p) V1 w3:=(But.of_below hB2).trans rU
  have ak6:¬aU b n e p w1.heap.size:=N0.out _ (by omega)
  have ak7:w3.heap[w1.heap.size]?=some (.cells (ae r' x.d) 47):=(rU.block _ (Array.getElem?_eq_some_iff.1 hnew).1 ak6).trans hnew
  have hE3:But (fun k=>W0.heap.size≤k∧k<V1.heap.size) w1 w3:=(But.of_below Il).trans (rU.mono fun k hk=>⟨Nr.out k (Ba.out.sub k hk),by have:=Ba.out.lt k hk;omega⟩)
  have aqj:w1.heap.size≤w2.heap.size:=Il.size
  have aqk:w2.heap.size≤w3.heap.size:=rU.size
 all_goals
  have hy4:w3.heap[w.heap.size]?=some (.cells (au es ps D) 32):=(kU.block _ hl4 (N0.out _ (Nat.le_refl _))).trans hx4
  have Di:w3.heap[w.heap.size+1]?=some (.cells (bZ z x) 52):=(kU.block _ hl5 (N0.out _ (by omega))).trans hx5
  have hy8:w3.heap[a8]?=some (.cells (mX x) 48):=(kU.block _ Ik (N0.out _ (by omega))).trans Ns
  have hy6:w3.heap[w.heap.size+2]?=some (.cells (au aW aW iY) 32):=(kU.block _ (by omega) (N0.out _ (by omega))).trans hx6
  clear hc4 hf4 hr4 hl4 hc5 hf5 rO hl5 hc8 GY og Ik
  obtain⟨hc4,hf4,hr4,hl4⟩:=aC hy4
  obtain⟨hc5,hf5,rO,hl5⟩:=aC Di
  obtain⟨hc8,GY,og,Ik⟩:=aC hy8
  have hB3:But (aU b n e p) w w3:=(But.of_below iV).trans kU
  have hs3:V1.heap.size≤w3.heap.size:=kU.size
  have hW3:Below W0.heap.size W0 w3:=hW1.trans (kU.below (by omega) (fun k hk=>Nr.out k (Ba.out.sub k hk)))
  have hF3:iE S1 es ps D X w3:=((HH.out.ref.grow (S':=S1) (fun k hk hlt=>by rw[iP.out]at hk;exact hk.elim id fun h=>by have:=h.1;omega)).later iV).on (kU.mono fun k hk=>by rw[iP.out];exact .inl (Ba.out.sub k hk))
  have Bc:=Lib.hid (show ∀k,S1 k→k<w3.heap.size from fun k hk=>by
   have:=Nu.out k hk
   omega)
 case' k2=>
  go_wp2_with fail
  refine(ajT S1 es ps D X w3 z.t x.q hF3 Bc.out (HX.out.A7.later hW3) HR0.out.eq hd0 (by omega)).mono ?_
  rintro y w4 ⟨Io,es',D2,X2,rfl,hb4,D5,hst2⟩
  obtain⟨rfl,rfl,rfl⟩:=ajm HR0.out.xh hst hst2
  dsimp only
  have D6:=akI hst
  obtain⟨ps',hq⟩:∃q,q=ps:=⟨_,rfl⟩
  subst hq
 case' k3=>
  go_wp2_with fail
  refine(ajU S1 es ps D X w3 z.t x.q x.a x.b x.c hF3 Bc.out (HX.out.A7.later hW3) HR0.out.eq HR0.out.xh hd0 (by omega)).mono ?_
  rintro y w4 ⟨Io,es',D2,X2,rfl,hb4,D5,hst2⟩
  obtain⟨rfl,rfl,rfl⟩:=ajn hst hst2
  dsimp only
  have D6:=akJ hst
  obtain⟨ps',hq⟩:∃q,q=ps:=⟨_,rfl⟩
  subst hq
 case' k4=>
  go_wp2_with fail
  refine(aiM S1 es ps D X x.p w3 hF3 Bc.out HX.out.Ih (by omega) hd0 (by omega)).mono ?_
  rintro y w4 ⟨Io,ps',D2,rfl,hb4,D5,hst2⟩
  obtain⟨rfl,rfl⟩:=ajj HR0.out.dQ.nodup hst hst2
  dsimp only
  have D6:=akK X HR0.out.dQ.nodup hst
  obtain⟨es',hq⟩:∃q,q=es:=⟨_,rfl⟩
  subst hq
  obtain⟨X',hq⟩:∃q,q=X:=⟨_,rfl⟩
  subst hq
 case' k5=>
  go_wp2_with fail
  refine(ajV S1 es ps D X w3 x.p.name hF3 Bc.out HR0.out.eq HR0.out.dQ.nodup hd0 (by omega)).mono ?_
  rintro y w4 ⟨Io,ps',D2,rfl,hb4,D5,hst2⟩
  obtain⟨rfl,rfl⟩:=ajo HR0.out.dQ.nodup hst hst2
  dsimp only
  have D6:=akL X hst
  obtain⟨es',hq⟩:∃q,q=es:=⟨_,rfl⟩
  subst hq
  obtain⟨X',hq⟩:∃q,q=X:=⟨_,rfl⟩
  subst hq
 case' k0|k1=>
  go_wp2_with fail
  refine(aiN S1 es ps D X z.r x.d w3 hF3 Bc.out (fun y hy=>HX.out.DT.later (hW3.trans (hy.below (by omega) (fun k hk=>by rw[iP.out]at hk;exact hk.elim (Nr.out k) fun h=>by have:=h.1;omega)))) HR0.out.eq HR0.out.xh (by omega) hd0 (by omega)).mono ?_
  rintro y w4 ⟨Io,es',D2,X2,rfl,hb4,D5,hst2⟩
  obtain⟨rfl,rfl,rfl⟩:=ajk HR0.out.xh hst hst2
  dsimp only
  have D6:=akH hst
  obtain⟨ps',hq⟩:∃q,q=ps:=⟨_,rfl⟩
  subst hq
 all_goals
  have hw4:=ag (Below.refl _ w3) hb4
  have rf:=aJ hb4 hy4
  have KA:=aJ hb4 hy6
  have XD:aQ w4 w.heap.size 0 4=true:=mF rf (by simp[go_sem])
  have D7:(putRow w4 w.heap.size 0 (au es' ps' D')).heap[w.heap.size]?=some (.cells (au es' ps' D') 32):=(mD rf (by simp[go_sem])).trans (by rw[tq (by simp[go_sem])])
  have D8:(putRow w4 w.heap.size 0 (au es' ps' D')).heap[w.heap.size+2]?=some (.cells (au aW aW iY) 32):=(iD (by omega)).trans KA
  have XE:But (fun k=>w.heap.size≤k∧S1 k) w3 (putRow w4 w.heap.size 0 (au es' ps' D')):=(But.of_below hw4).put ⟨Nat.le_refl _,by rw[iP.out];exact .inr ⟨Nat.le_refl _,hwc⟩⟩
  have XF:iE S1 es' ps' D' X' (putRow w4 w.heap.size 0 (au es' ps' D')):=D5.on ((But.refl _ w4).put (by rw[iP.out];exact .inr ⟨Nat.le_refl _,hwc⟩))
  clear hc4 hf4 hr4 hl4 hc5 hf5 rO hl5 hc8 GY og Ik
 case' k0|k1=>
  have alb:=aJ hb4 ak7
  have Bd:(putRow w4 w.heap.size 0 (au es' ps' D')).heap[w1.heap.size]?=some (.cells (ae r' x.d) 47):=(iD (by omega)).trans alb
  have alc:row? (putRow w4 w.heap.size 0 (au es' ps' D')) w1.heap.size 0 17=some (ae r' x.d):=by rw[bP Bd];exact dm (by simp[go_sem])
  have hE5:rQ (span V1.heap.size w1.heap.size) (putRow w4 w.heap.size 0 (au es' ps' D')) r' x.d:=XC.out _ (hE3.trans (((But.of_below hw4).put (S:=fun k=>W0.heap.size≤k∧k<V1.heap.size) ⟨by omega,by omega⟩)))
  go_wp2_with fail
  generalize (putRow w4 w.heap.size 0 (au es' ps' D'))=U0 at *
  refine(ajX (span V1.heap.size w1.heap.size) r' x.d U0 hE5).mono ?_
  rintro y U ⟨rfl,fU⟩
  dsimp only
  have Nv:=D7
  have Nw:=D8
  clear D7 D8 Bd alc
  have D7:U.heap[w.heap.size]?=some (.cells (au es' ps' D') 32):=(fU.block _ (Array.getElem?_eq_some_iff.1 Nv).1 (fun h=>by have:=h.1;omega)).trans Nv
  have D8:U.heap[w.heap.size+2]?=some (.cells (au aW aW iY) 32):=(fU.block _ (Array.getElem?_eq_some_iff.1 Nw).1 (fun h=>by have:=h.1;omega)).trans Nw
  have XG:=XE.trans (fU.mono fun k hk=>(⟨by have:=hk.1;omega,by rw[iP.out];exact .inr ⟨by have:=hk.1;omega,hk.2⟩⟩:w.heap.size≤k∧S1 k))
  have XH:=XF.on (fU.mono fun k hk=>by rw[iP.out];exact .inr ⟨by have:=hk.1;omega,hk.2⟩)
  clear Nv Nw XD
  go_wp2_with fail
 case' k2|k3|k4|k5=>
  have HG5:=Lib.hid XD
  go_wp2_with fail
  generalize (putRow w4 w.heap.size 0 (au es' ps' D'))=U at *
  have XG:=XE
  have XH:=XF
 all_goals
  obtain⟨hc4,hf4,hr4,hl4⟩:=aC D7
  have hru:row? U w.heap.size 0 4=some (au es' ps' D'):=by rw[bP D7];exact dm (by simp[go_sem])
  have hcu:aQ U (w.heap.size+2) 0 4=true:=mF D8 (by simp[go_sem])
  have aqn:w.heap.size+2<U.heap.size:=(Array.getElem?_eq_some_iff.1 D8).1
  have m4:¬one (w.heap.size+2) w.heap.size:=bf (by omega)
  clear hc4 hf4 hr4
  refine mG (one (w.heap.size+2)) (But.refl _ U) (by kernel_rfl) (by kernel_rfl) ?_
  repeat (first|(refine ak (by rfl) ?_)|(refine aP (by rfl) (by rfl) (fun K hK=>?_);go_big_quiet_op;refine hK _ ?_;clear hK K))
  refine aT (by rfl) (by rfl) (fun K hK=>?_)
  go_wp2_with fail
  refine(oz _ U.drew).mono ?_
  rintro y v ⟨rfl,rfl⟩
  dsimp only
  refine hK _ _ (cu (But.refl _ U).drew) ?_
  clear hK K
  repeat (first|(refine ak (by rfl) ?_)|(refine aP (by rfl) (by rfl) (fun K hK=>?_);go_big_quiet_op;refine hK _ ?_;clear hK K))
  refine aT (by rfl) (by rfl) (fun K hK=>?_)
  go_wp2_with fail
  refine hK _ _ (cu ((But.refl _ U).drew.put rfl)) ?_
  clear hK K
  repeat (first|(refine ak (by rfl) ?_)|(refine aP (by rfl) (by rfl) (fun K hK=>?_);go_big_quiet_op;refine hK _ ?_;clear hK K))
  refine bQ ?_
  go_wp2_with fail
  have hrow:=iT (w:=U.drew) (jH es' ps' D') hcu
  have Ny:But (fun k=>w.heap.size≤k∧S1 k) w3 (putRow U.drew (w.heap.size+2) 0 (au es' ps' D')):=XG.trans ((But.refl _ U).drew.put ⟨by omega,by rw[iP.out];exact .inr ⟨by omega,by omega⟩⟩)
  refine bodyPost_ret (kQ (by rfl) Tryz.underlying32 rfl (by kernel_rfl) rfl hrow) rfl ?_
  refine akS HH.out (by rfl) D6 hP3 cZ (XH.on ((But.refl _ U).drew.put (by rw[iP.out];exact .inr ⟨by omega,by omega⟩))) (fun k hk=>by rw[iP.out]at hk;exact hk.imp id (·.1)) (fun k hk=>by rw[iP.out];exact .inl hk) (fun k hk=>Nat.lt_of_lt_of_le (Bc.out k hk) Ny.size) Ny (fun k hk=>hk.2) (fun k hk=>hk.1) (hB3.past Ny (fun k hk=>hk.1))
end Go.Proofs.YtfieenjdcpjmgaaGreatDoor
namespace Go.WW
open Go.RowKit
theorem alf{ι κ μ ν:Type}{c:Code}{P:Program}{Q:Exit→Act→World→Prop}{a:Act}{w:World}(M:ι→κ→μ→ν→World→Prop)(F:ι→κ→μ→ν→Act)
  (h1:c.wp P (fun e a' w'=>e=.normal∧∃i j k l,a'=F i j k l∧AX (M i j k l) w') a w) (h2:∀i j k l w',M i j k l w'→Q .normal (F i j k l) w'):c.wp P Q a w:=by
 refine wp_mono h1 ?_
 rintro e a' w' ⟨rfl,i,j,k,l,rfl,h⟩
 exact h2 i j k l w' h.out
theorem alg{P:Program}{id:Nat}{Q':Exit→Act→World→Prop}{a:Act}{W w:World}{l:List Oper}(x c:Nat)(idx:List Nat)(S:Nat→Prop)(hW:But S W w)(hm:P.follows .mixedOrders=true)(hB:Dj fO l.toArray x c=true)(hi:mv x c (List.range l.toArray.size)=idx)
  (h:aH P l.toArray fO (nH S W) (fun a' w'=>Q' .normal a' w') l a w.drew)
  (h2:aH P l.toArray fO (nH S W) (fun a' w'=>Q' .normal a' w') (pick l idx) a w.drew):(Code.region id l.toArray true).wp P Q' a w:=
 Uw (nH S W) fO x c idx hm hB hi ⟨⟨w.drew,hW.drew⟩,rfl⟩ h h2
end Go.WW
namespace Go.Proofs.YtfieenjdcpjmgaaGreatDoor
open Go.RowKit Go.WW
theorem iJ.later{S:Nat→Prop}{b n e p:Nat}{re:ByteArray}{es ps:Sl}{D:Db}{X:List EE}{N:Nat}{w w':World}(h:iJ S b n e p re es ps D X N w)(hb:Below w.heap.size w w'):iJ S b n e p re es ps D X N w':=by
 obtain⟨NL,E,P,h1,h2⟩:=h.ex
 exact⟨⟨NL,E,P,h1.later hb,h2⟩,h.ref.later hb,h.aF,fun k hk=>Nat.lt_of_lt_of_le (h.lt k hk) hb.size,h.sort,h.d0,h.d1,h.n1,h.n2⟩
theorem iJ.off{S T:Nat→Prop}{b n e p:Nat}{re:ByteArray}{es ps:Sl}{D:Db}{X:List EE}{N:Nat}{w w':World}(h:iJ S b n e p re es ps D X N w)(hb:But T w w')(hT:∀k,T k→S k∧¬aU b n e p k):iJ S b n e p re es ps D X N w':=by
 obtain⟨NL,E,P,h1,h2⟩:=h.ex
 exact⟨⟨NL,E,P,h1.off hb (fun k hk=>(hT k hk).1) (fun k hk=>(hT k hk).2),h2⟩,h.ref.on (hb.mono fun k hk=>(hT k hk).1),h.aF,fun k hk=>Nat.lt_of_lt_of_le (h.lt k hk) hb.size,h.sort,h.d0,h.d1,h.n1,h.n2⟩
theorem iJ.wide{S S':Nat→Prop}{b n e p:Nat}{re:ByteArray}{es ps:Sl}{D:Db}{X:List EE}{N:Nat}{w w':World}(h:iJ S b n e p re es ps D X N w)(hb:Below w.heap.size w w')(hS:∀k,S' k→S k∨w.heap.size≤k)(hsub:∀k,S k→S' k)(hlt:∀k,S' k→k<w'.heap.size):iJ S' b n e p re es ps D X N w':=by
 obtain⟨NL,E,P,h1,h2⟩:=h.ex
 have hg:∀k,S' k→k<w.heap.size→S k:=fun k hk hlt=>by
  rcases hS k hk with h|h
  ·exact h
  ·omega
 exact⟨⟨NL,E,P,(h1.grow hg hsub).later hb,h2⟩,(h.ref.grow hg).later hb,h.aF,hlt,h.sort,h.d0,h.d1,h.n1,h.n2⟩
theorem Nz{S:Nat→Prop}{b n e p:Nat}{w:World}(h:bU w b n e p bg 0 [] [] [])(hsub:∀k,aU b n e p k→S k)(hlt:∀k,S k→k<w.heap.size):iJ S b n e p bg aW aW (eu bg) [] 0 w:=
 ⟨⟨[],[],[],⟨h,by simp,hsub⟩,Me⟩,⟨fun y _=>⟨⟨by simp[lim],fun i hi=>by simp at hi⟩,by simp⟩,fun y _=>⟨by simp[eu,lim],fun i hi=>by simp[eu]at hi⟩,by simp[eu]⟩,rfl,hlt,List.Pairwise.nil,by simp[eu],by simp[eu],by simp,by simp[eu]⟩
theorem bU.Be{w:World}{b n e p:Nat}{re:ByteArray}{s:Int}{N:List (ByteArray×Value)}{E:List EE}{P:List ah}(h:bU w b n e p re s N E P):∀k,aU b n e p k→k<w.heap.size:=fun k hk=>by
 rcases hk with rfl|rfl|rfl|rfl
 ·exact(Array.getElem?_eq_some_iff.1 h.box).1
 ·exact h.nm.lt
 ·exact h.em.lt
 ·exact h.pm.lt
structure zf(w0:World)(T3 T7 b n e p:Nat)(k:Nat)(S:Nat→Prop)(es ps:Sl)(D:Db)(X:List EE)(wr:World):Prop where
 box:wr.heap[T7]?=some (.cells (au es ps D) 32)
 res:wr.heap[T3]?=some (.cells (au aW aW iY) 32)
 xA:iJ S b n e p bg es ps D X k wr
 out:Below w0.heap.size w0 wr
 fr:∀j,S j→w0.heap.size≤j
 Bf:∀j,aU b n e p j→j≠T3∧j≠T7
 b3:w0.heap.size≤T3
 b7:w0.heap.size≤T7
 ne:T3≠T7
 NC:S T3
 in7:S T7
def ND(N:Nat)(w:World)(z:Ending)(w':World):Prop:=
 ∃S b n e p es ps D X,z=.returned (.tuple #[.pointer (some ⟨b,0,none⟩),.agg (au es ps D),.bool true])∧Below w.heap.size w w'∧iJ S b n e p bg es ps D X N w'∧∀k,S k→w.heap.size≤k
theorem zf.next{w0:World}{T3 T7 b n e p k:Nat}{S S':Nat→Prop}{es ps es' ps':Sl}{D D':Db}{X X':List EE}{wr V:World}(h:zf w0 T3 T7 b n e p k S es ps D X wr)(hb:But (aU b n e p) wr V)(hd:iJ S' b n e p bg es' ps' D' X' (k+1) V)(hS:∀j,S' j→S j∨wr.heap.size≤j)(hSS:∀j,S j→S' j) :
  zf w0 T3 T7 b n e p (k+1) S' es' ps' D' X' (putRow V T7 0 (au es' ps' D')):=by
 have l3:T3<wr.heap.size:=(Array.getElem?_eq_some_iff.1 h.res).1
 have l7:T7<wr.heap.size:=(Array.getElem?_eq_some_iff.1 h.box).1
 obtain⟨_,_,_,hp,_⟩:=h.xA.ex
 have m3:¬aU b n e p T3:=fun hj=>(h.Bf _ hj).1 rfl
 have m7:¬aU b n e p T7:=fun hj=>(h.Bf _ hj).2 rfl
 have hbx:V.heap[T7]?=some (.cells (au es ps D) 32):=(hb.block _ l7 m7).trans h.box
 have hrs:V.heap[T3]?=some (.cells (au aW aW iY) 32):=(hb.block _ l3 m3).trans h.res
 have NF:But (one T7) V (putRow V T7 0 (au es' ps' D')):=(But.refl _ _).put rfl
 refine⟨?_,(NF.block _ (Array.getElem?_eq_some_iff.1 hrs).1 (bf h.ne)).trans hrs,hd.off NF (fun j (hj:j=T7)=>⟨hj▸hSS _ h.in7,hj▸m7⟩),?_,fun j hj=>?_,h.Bf,h.b3,h.b7,h.ne,hSS _ h.NC,hSS _ h.in7⟩
 ·have:=mD (o:=0) (cs:=au es' ps' D') hbx (by simp[jH])
  rwa[tq (by simp[jH])]at this
 ·have h1:But (aU b n e p) w0 V:=(But.of_below h.out).trans hb
  have h2:But (fun j=>w0.heap.size≤j) w0 (putRow V T7 0 (au es' ps' D')):=(h1.mono fun j hj=>h.fr j (hp.sub j hj)).trans (NF.mono fun j (hj:j=T7)=>hj▸h.b7)
  exact h2.below (Nat.le_refl _) fun j hj=>hj
 ·rcases hS j hj with h1|h1
  ·exact h.fr j h1
  ·have:=h.out.size;omega
theorem alh(bA oA cap:Nat)(l:List dX)(w:World)(hl:pg w (some ⟨bA,oA,none⟩) l)(hn:l.length<50):Calls Tryz.prog 15 #[.slice (some ⟨bA,oA,none⟩) l.length cap] w (ND l.length w):=by
 have HL:=Lib.hid hl
 clear hl
 have hz3:=World.alloc_heap_new w (.cells (au aW aW iY) 32)
 have hB3:Below w.heap.size w (w.alloc (.cells (au aW aW iY) 32)):=aj (Below.refl _ w) _
 go_enter Tryz.func15,Tryz.ntmps15
 go_wp2_with fail
 rw[←Hy]
 generalize (w.alloc (.cells (au aW aW iY) 32))=V3 at *
 refine(Gn bg V3 (by simp[lim,ByteArray.size]) AQ).mono ?_
 rintro y w1 ⟨b,n,e,p,rfl,hb1,jR,l1,l2,l4,l5⟩
 dsimp only
 go_wp2_with fail
 refine(Wx bg w1 (by simp[lim,ByteArray.size]) AQ).mono ?_
 rintro y w2 ⟨rfl,hb2⟩
 dsimp only
 have hx7:=World.alloc_heap_new w2 (.cells (au aW aW (eu bg)) 32)
 have pq:Below w1.heap.size w1 (w2.alloc (.cells (au aW aW (eu bg)) 32)):=aj hb2 _
 have hx3:=aJ pq (aJ hb1 hz3)
 have D9:=jR.later pq
 have hB:=ag hB3 (ag hb1 pq)
 have hs3:w.heap.size<V3.heap.size:=(Array.getElem?_eq_some_iff.1 hz3).1
 have hs1:=hb1.size
 have hs2:=hb2.size
 have hV:zf w w.heap.size w2.heap.size b n e p 0 (fun j=>aU b n e p j∨j=w.heap.size∨j=w2.heap.size) aW aW (eu bg) [] (w2.alloc (.cells (au aW aW (eu bg)) 32)):=by
  have hof:∀j,aU b n e p j→V3.heap.size≤j∧j<w1.heap.size:=fun j hj=>⟨by rcases hj with rfl|rfl|rfl|rfl<;>assumption,jR.Be j hj⟩
  have hs7:w2.heap.size<(w2.alloc (.cells (au aW aW (eu bg)) 32)).heap.size:=by simp
  refine⟨hx7,hx3,Nz D9 (fun j hj=>.inl hj) (fun j hj=>?_),hB,fun j hj=>?_,fun j hj=>?_,Nat.le_refl _,by omega,by omega,.inr (.inl rfl),.inr (.inr rfl)⟩
  ·rcases hj with hj|rfl|rfl
   ·have:=hof j hj;omega
   ·omega
   ·exact hs7
  ·rcases hj with hj|rfl|rfl
   ·have:=hof j hj;omega
   ·omega
   ·omega
  ·have:=hof j hj;omega
 clear jR D9 l1 l2 l4 l5 hx3 hz3 hB hB3 hb1
 have NG:w2.heap.size<(w2.alloc (.cells (au aW aW (eu bg)) 32)).heap.size:=by simp
 go_wp2_with fail
 generalize (w2.alloc (.cells (au aW aW (eu bg)) 32))=V7 at *
 generalize w2.heap.size=T7 at *
 refine(oz _ _).mono ?_
 rintro y w' ⟨rfl,rfl⟩
 dsimp only
 go_wp2_with fail
 clear hx7 pq
 go_loopw [9] (fun iv wr=>∃(k:Nat) (S:Nat→Prop) (es ps:Sl) (D:Db) (X:List EE),k≤l.length∧iv=.int .i64 k∧zf w w.heap.size T7 b n e p k S es ps D X wr) (fun iv _=>l.length-(intOf iv).toNat)
 case atStart=>exact⟨0,_,_,_,_,_,Nat.zero_le _,rfl,hV⟩
 case round=>
  clear hV NG
  obtain⟨w1,rfl⟩:∃w1,w1=wr:=⟨_,rfl⟩
  obtain⟨k,S,es,ps,D,X,hk,rfl,hI⟩:=hrel
  obtain⟨xc,xf,xr,xl⟩:=aC hI.box
  have HI:=Lib.hid hI
  by_cases hlt:k<l.length
  ·obtain⟨bA',oA',z,ha,hrow0,Ea⟩:=aV.Xu HL.out k hlt
   cases ha
   have hrow:row? w1 bA (oA+k*33) 33=some (bZ z l[k]):=(ig (hI.out.block _ (gG hrow0)) _ _).trans hrow0
   have jE:bA<w1.heap.size:=gG hrow
   have hwA:bA<w.heap.size:=gG hrow0
   obtain⟨_,_,_,hp,_⟩:=hI.xA.ex
   have XI:=Lib.hid (show ∀j,aU b n e p j→w.heap.size≤j∧j≠w.heap.size∧j≠T7 from fun j hj=>⟨hI.fr j (hp.sub j hj),hI.Bf j hj⟩)
   clear hI hp hrow0
   generalize l[k]=xk at *
   have XJ:=Lib.hid Ea
   have hn7:¬aU b n e p T7:=fun hj=>(XI.out _ hj).2.2 rfl
   have hnA:¬aU b n e p bA:=fun hj=>by have:=(XI.out _ hj).1;have:=hwA;omega
   have yK:row? w1 T7 0 4=some (au es ps D):=by rw[bP HI.out.box];exact dm (by simp[go_sem])
   clear Ea xc xf xr
   go_wp2_with fail
   apply alf (M:=fun(T10:Nat) (es' ps':Sl) (D':Db) V=>∃S' X',But (aU b n e p) w1 V∧V.heap[T10]?=some (.cells (au es' ps' D') 32)∧w1.heap.size≤T10∧iJ S' b n e p bg es' ps' D' X' (k+1) V∧(∀j,S' j→S j∨w1.heap.size≤j)∧(∀j,S j→S' j))
   case h1=>
    refine alg 10 6 [0,1,2,3,4,5,10,6,7,8,9,11,12] (aU b n e p) (But.refl _ w1) (by kernel_rfl) (by kernel_rfl) (by rfl) ?_ ?_
    ·repeat (first|(refine ak (by rfl) ?_)|(refine aP (by rfl) (by rfl) (fun K hK=>?_);go_big_quiet_op;refine hK _ ?_;clear hK K))
     refine aT (by rfl) (by rfl) (fun K hK=>?_)
     go_wp2_with fail
     refine(Ij S b n e p bg es ps D X k w z xk w1.drew (HI.out.xA.later (Below.refl _ w1).drew) lG (by omega) (HI.out.out.drew) XJ.out (fun j hj=>HI.out.fr j hj)).mono ?_
     rintro y V ⟨S',es',ps',D',X',rfl,fV,zg,hS',hSS⟩
     dsimp only
     have vI:But (aU b n e p) w1 V:=(But.refl _ w1).drew.trans fV
     refine hK _ _ (cu vI) ?_
     clear hK K
     repeat (first|(refine ak (by rfl) ?_)|(refine aP (by rfl) (by rfl) (fun K hK=>?_);go_big_quiet_op;refine hK _ ?_;clear hK K))
     refine aT (by rfl) (by rfl) (fun K hK=>?_)
     go_wp2_with fail
     refine hK _ _ (cu (vI.trans (But.of_below (aj (Below.refl _ V) _)))) ?_
     clear hK K
     repeat (first|(refine ak (by rfl) ?_)|(refine aP (by rfl) (by rfl) (fun K hK=>?_);go_big_quiet_op;refine hK _ ?_;clear hK K))
     refine aT (by rfl) (by rfl) (fun K hK=>?_)
     go_wp2_with fail
     refine hK _ _ (cu (vI.trans (But.of_below (aj (Below.refl _ V) (.cells (au es' ps' D') 32))))) ?_
     clear hK K
     repeat (first|(refine ak (by rfl) ?_)|(refine aP (by rfl) (by rfl) (fun K hK=>?_);go_big_quiet_op;refine hK _ ?_;clear hK K))
     refine bQ ?_
     have hnew:=World.alloc_heap_new V (.cells (au es' ps' D') 32)
     have hdN:=zg.later (aj (Below.refl _ V) (.cells (au es' ps' D') 32))
     have hbN:=vI.trans (But.of_below (aj (Below.refl _ V) (.cells (au es' ps' D') 32)))
     have hge:w1.heap.size≤V.heap.size:=vI.size
     clear fV zg vI
     generalize (V.alloc (.cells (au es' ps' D') 32))=VV at *
     generalize V.heap.size=T10 at *
     go_wp2_with fail
     exact⟨trivial,T10,es',ps',D',rfl,⟨S',X',hbN,hnew,hge,hdN,hS',hSS⟩⟩
    ·simp only[pick,List.getElem?_cons_zero,List.getElem?_cons_succ]
     iterate 6 (refine aP (by kernel_rfl) (by kernel_rfl) (fun K hK=>?_);go_big_quiet_op;refine hK _ ?_;clear hK K)
     refine aT (by rfl) (by rfl) (fun K hK=>?_)
     go_wp2_with fail
     refine hK _ _ (cu (But.of_below (aj (Below.refl _ w1).drew _))) ?_
     clear hK K
     have hz1:((w1.alloc (.cells (au aW aW iY) 32)).drew).heap[w1.heap.size]?=some (.cells (au aW aW iY) 32):=World.alloc_heap_new w1 _
     have gB:Below w1.heap.size w1 ((w1.alloc (.cells (au aW aW iY) 32)).drew):=(aj (Below.refl _ w1) _).drew
     have hzs:w1.heap.size<((w1.alloc (.cells (au aW aW iY) 32)).drew).heap.size:=(Array.getElem?_eq_some_iff.1 hz1).1
     have XK:¬aU b n e p w1.heap.size:=fun hj=>by
      obtain⟨_,_,_,hp,_⟩:=HI.out.xA.ex
      have:=hp.lt _ hj;omega
     have hdZ:iJ (fun j=>S j∨j=w1.heap.size) b n e p bg es ps D X k ((w1.alloc (.cells (au aW aW iY) 32)).drew):=HI.out.xA.wide gB (fun j hj=>hj.imp id fun h=>by omega) (fun j hj=>.inl hj) (fun j hj=>by
      rcases hj with hj|rfl
      ·exact Nat.lt_of_lt_of_le (HI.out.xA.lt j hj) gB.size
      ·exact hzs)
     have hwT:=HI.out.out.size
     refine aT (by rfl) (by rfl) (fun K hK=>?_)
     go_wp2_with fail
     refine(Ij (fun j=>S j∨j=w1.heap.size) b n e p bg es ps D X k w z xk ((w1.alloc (.cells (au aW aW iY) 32)).drew) hdZ lG (by omega) (ag HI.out.out gB) XJ.out (fun j hj=>by
      rcases hj with hj|rfl
      ·exact HI.out.fr j hj
      ·exact hwT)).mono ?_
     rintro y V ⟨S',es',ps',D',X',rfl,fV,zg,hS',hSS⟩
     dsimp only
     have vI:But (aU b n e p) w1 V:=(But.of_below gB).trans fV
     refine hK _ _ (cu vI) ?_
     clear hK K
     have hz2:V.heap[w1.heap.size]?=some (.cells (au aW aW iY) 32):=(fV.block _ hzs XK).trans hz1
     have hcp:aQ V w1.heap.size 0 4=true:=mF hz2 (by simp[go_sem])
     have hnew:(putRow V w1.heap.size 0 (au es' ps' D')).heap[w1.heap.size]?=some (.cells (au es' ps' D') 32):=(mD hz2 (by simp[go_sem])).trans (by rw[tq (by simp[go_sem])])
     have hbN:But (aU b n e p) w1 (putRow V w1.heap.size 0 (au es' ps' D')):=vI.past ((But.refl _ V).put (S:=one w1.heap.size) rfl) (fun j (hj:j=_)=>by omega)
     have hdN:=zg.off ((But.refl _ V).put (S:=one w1.heap.size) (cs:=au es' ps' D') (o:=0) rfl) (fun j (hj:j=_)=>⟨hj▸hSS _ (.inr rfl),hj▸XK⟩)
     have XL:=gB.size
     have HS:=Lib.hid hS'
     have NH:=Lib.hid hSS
     have HZ:=Lib.hid XL
     clear hS' hSS XL
     repeat (first|(refine ak (by rfl) ?_)|(refine aP (by rfl) (by rfl) (fun K hK=>?_);go_big_quiet_op;refine hK _ ?_;clear hK K))
     refine aT (by rfl) (by rfl) (fun K hK=>?_)
     go_wp2_with fail
     refine hK _ _ (cu hbN) ?_
     clear hK K
     repeat (first|(refine ak (by rfl) ?_)|(refine aP (by rfl) (by rfl) (fun K hK=>?_);go_big_quiet_op;refine hK _ ?_;clear hK K))
     refine bQ ?_
     go_wp2_with fail
     refine⟨trivial,w1.heap.size,es',ps',D',?_,⟨S',X',hbN,hnew,Nat.le_refl _,hdN,fun j hj=>by
      rcases HS.out j hj with(h|h)|h
      ·exact .inl h
      ·exact .inr (by omega)
      ·exact .inr (by have:=HZ.out;omega),fun j hj=>NH.out j (.inl hj)⟩⟩
     generalize w1.heap.size=T10
     rfl
   rintro T10 es' ps' D' V ⟨S',X',fV,NI,h10,zg,hS',hSS⟩
   have XM:V.heap[T7]?=some (.cells (au es ps D) 32):=(fV.block _ xl hn7).trans HI.out.box
   have aqp:aQ V T7 0 4=true:=mF XM (by simp[go_sem])
   have XN:row? V T10 0 4=some (au es' ps' D'):=by rw[bP NI];exact dm (by simp[go_sem])
   have HN:=Lib.hid (HI.out.next fV zg hS' hSS)
   have aqr:T10<V.heap.size:=(Array.getElem?_eq_some_iff.1 NI).1
   clear NI zg hS' hSS fV XM
   iterate 3 go_step
   go_wp2_with fail
   go_roundw
   case rel=>exact⟨k+1,S',es',ps',D',X',by omega,by go_num,HN.out⟩
   case measure=>simp[intOf];omega
  ·obtain rfl:k=l.length:=by omega
   have AY:aQ w1 w.heap.size 0 4=true:=mF hI.res (by simp[go_sem])
   have yK:row? w1 T7 0 4=some (au es ps D):=by rw[bP hI.box];exact dm (by simp[go_sem])
   have m7:¬one w.heap.size T7:=bf (Ne.symm hI.ne)
   have hl3:w.heap.size<w1.heap.size:=(Array.getElem?_eq_some_iff.1 hI.res).1
   clear hI xc xf xr
   go_wp2_with fail
   refine mG (one w.heap.size) (But.refl _ w1) (by kernel_rfl) (by kernel_rfl) ?_
   repeat (first|(refine ak (by rfl) ?_)|(refine aP (by rfl) (by rfl) (fun K hK=>?_);go_big_quiet_op;refine hK _ ?_;clear hK K))
   refine aT (by rfl) (by rfl) (fun K hK=>?_)
   go_wp2_with fail
   refine hK _ _ (cu ((But.refl _ w1).drew.put rfl)) ?_
   clear hK K
   repeat (first|(refine ak (by rfl) ?_)|(refine aP (by rfl) (by rfl) (fun K hK=>?_);go_big_quiet_op;refine hK _ ?_;clear hK K))
   refine bQ ?_
   go_wp2_with fail
   have hrow:=iT (w:=w1.drew) (jH es ps D) AY
   have hput:But (one w.heap.size) w1 (putRow w1.drew w.heap.size 0 (au es ps D)):=(But.refl _ w1).drew.put rfl
   have NJ:¬aU b n e p w.heap.size:=fun hj=>(HI.out.Bf _ hj).1 rfl
   refine bodyPost_ret (Wv (by rfl) Tryz.underlying32 rfl (by kernel_rfl) (by rfl) hrow) rfl ⟨S,b,n,e,p,es,ps,D,X,rfl,?_,HI.out.xA.off hput (fun j (hj:j=_)=>⟨hj▸HI.out.NC,hj▸NJ⟩),HI.out.fr⟩
   exact((But.of_below (S:=fun j=>w.heap.size≤j) HI.out.out).trans (hput.mono fun j (hj:j=_)=>by omega)).below (Nat.le_refl _) fun j hj=>hj
theorem alk(a:Option Addr)(cap:Nat)(l:List dX)(w:World)(_hl:pg w a l)(hn:l.length=0):Calls Tryz.prog 15 #[.slice a l.length cap] w (ND l.length w):=by
 have hz3:=World.alloc_heap_new w (.cells (au aW aW iY) 32)
 have hB3:Below w.heap.size w (w.alloc (.cells (au aW aW iY) 32)):=aj (Below.refl _ w) _
 go_enter Tryz.func15,Tryz.ntmps15
 go_wp2_with fail
 rw[←Hy]
 generalize (w.alloc (.cells (au aW aW iY) 32))=V3 at *
 refine(Gn bg V3 (by simp[lim,ByteArray.size]) AQ).mono ?_
 rintro y w1 ⟨b,n,e,p,rfl,hb1,jR,l1,l2,l4,l5⟩
 dsimp only
 go_wp2_with fail
 refine(Wx bg w1 (by simp[lim,ByteArray.size]) AQ).mono ?_
 rintro y w2 ⟨rfl,hb2⟩
 dsimp only
 have hx7:=World.alloc_heap_new w2 (.cells (au aW aW (eu bg)) 32)
 have pq:Below w1.heap.size w1 (w2.alloc (.cells (au aW aW (eu bg)) 32)):=aj hb2 _
 have hx3:=aJ pq (aJ hb1 hz3)
 have D9:=jR.later pq
 have hB:=ag hB3 (ag hb1 pq)
 have hs3:w.heap.size<V3.heap.size:=(Array.getElem?_eq_some_iff.1 hz3).1
 have hs1:=hb1.size
 have hs2:=hb2.size
 have hV:zf w w.heap.size w2.heap.size b n e p 0 (fun j=>aU b n e p j∨j=w.heap.size∨j=w2.heap.size) aW aW (eu bg) [] (w2.alloc (.cells (au aW aW (eu bg)) 32)):=by
  have hof:∀j,aU b n e p j→V3.heap.size≤j∧j<w1.heap.size:=fun j hj=>⟨by rcases hj with rfl|rfl|rfl|rfl<;>assumption,jR.Be j hj⟩
  have hs7:w2.heap.size<(w2.alloc (.cells (au aW aW (eu bg)) 32)).heap.size:=by simp
  refine⟨hx7,hx3,Nz D9 (fun j hj=>.inl hj) (fun j hj=>?_),hB,fun j hj=>?_,fun j hj=>?_,Nat.le_refl _,by omega,by omega,.inr (.inl rfl),.inr (.inr rfl)⟩
  ·rcases hj with hj|rfl|rfl
   ·have:=hof j hj;omega
   ·omega
   ·exact hs7
  ·rcases hj with hj|rfl|rfl
   ·have:=hof j hj;omega
   ·omega
   ·omega
  ·have:=hof j hj;omega
 clear jR D9 l1 l2 l4 l5 hx3 hz3 hB hB3 hb1
 have NG:w2.heap.size<(w2.alloc (.cells (au aW aW (eu bg)) 32)).heap.size:=by simp
 go_wp2_with fail
 generalize (w2.alloc (.cells (au aW aW (eu bg)) 32))=V7 at *
 generalize w2.heap.size=T7 at *
 refine(oz _ _).mono ?_
 rintro y w' ⟨rfl,rfl⟩
 dsimp only
 go_wp2_with fail
 clear hx7 pq
 go_loopw [9] (fun iv wr=>∃(k:Nat) (S:Nat→Prop) (es ps:Sl) (D:Db) (X:List EE),k≤l.length∧iv=.int .i64 k∧zf w w.heap.size T7 b n e p k S es ps D X wr) (fun iv _=>l.length-(intOf iv).toNat)
 case atStart=>exact⟨0,_,_,_,_,_,Nat.zero_le _,rfl,hV⟩
 case round=>
  clear hV NG
  obtain⟨w1,rfl⟩:∃w1,w1=wr:=⟨_,rfl⟩
  obtain⟨k,S,es,ps,D,X,hk,rfl,hI⟩:=hrel
  obtain⟨xc,xf,xr,xl⟩:=aC hI.box
  have HI:=Lib.hid hI
  by_cases hlt:k<l.length
  ·omega
  ·obtain rfl:k=l.length:=by omega
   have AY:aQ w1 w.heap.size 0 4=true:=mF hI.res (by simp[go_sem])
   have yK:row? w1 T7 0 4=some (au es ps D):=by rw[bP hI.box];exact dm (by simp[go_sem])
   have m7:¬one w.heap.size T7:=bf (Ne.symm hI.ne)
   have hl3:w.heap.size<w1.heap.size:=(Array.getElem?_eq_some_iff.1 hI.res).1
   clear hI xc xf xr
   go_wp2_with fail
   refine mG (one w.heap.size) (But.refl _ w1) (by kernel_rfl) (by kernel_rfl) ?_
   repeat (first|(refine ak (by rfl) ?_)|(refine aP (by rfl) (by rfl) (fun K hK=>?_);go_big_quiet_op;refine hK _ ?_;clear hK K))
   refine aT (by rfl) (by rfl) (fun K hK=>?_)
   go_wp2_with fail
   refine hK _ _ (cu ((But.refl _ w1).drew.put rfl)) ?_
   clear hK K
   repeat (first|(refine ak (by rfl) ?_)|(refine aP (by rfl) (by rfl) (fun K hK=>?_);go_big_quiet_op;refine hK _ ?_;clear hK K))
   refine bQ ?_
   go_wp2_with fail
   have hrow:=iT (w:=w1.drew) (jH es ps D) AY
   have hput:But (one w.heap.size) w1 (putRow w1.drew w.heap.size 0 (au es ps D)):=(But.refl _ w1).drew.put rfl
   have NJ:¬aU b n e p w.heap.size:=fun hj=>(HI.out.Bf _ hj).1 rfl
   refine bodyPost_ret (Wv (by rfl) Tryz.underlying32 rfl (by kernel_rfl) (by rfl) hrow) rfl ⟨S,b,n,e,p,es,ps,D,X,rfl,?_,HI.out.xA.off hput (fun j (hj:j=_)=>⟨hj▸HI.out.NC,hj▸NJ⟩),HI.out.fr⟩
   exact((But.of_below (S:=fun j=>w.heap.size≤j) HI.out.out).trans (hput.mono fun j (hj:j=_)=>by omega)).below (Nat.le_refl _) fun j hj=>hj
theorem alm(a:Option Addr)(cap:Nat)(l:List dX)(w:World)(hl:pg w a l)(hn:l.length<50):Calls Tryz.prog 15 #[.slice a l.length cap] w (ND l.length w):=by
 rcases aV.addr hl with h0|⟨bA,oA,rfl,hb⟩
 ·exact alk a cap l w hl h0
 ·exact alh bA oA cap l w hl hn
end Go.Proofs.YtfieenjdcpjmgaaGreatDoor
