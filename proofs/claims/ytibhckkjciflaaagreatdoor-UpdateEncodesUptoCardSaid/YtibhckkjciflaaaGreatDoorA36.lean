/- A part of the proof. -/
import Derived.Test.YtibhckkjciflaaaGreatDoorA35
import Derived.Test.YtibhckkjciflaaaGreatDoorA01
import Derived.Carry
import Derived.Deep.DeepHandedRow
set_option maxRecDepth 2000000
namespace Go.Proofs.YtibhckkjciflaaaGreatDoor
open Go.ChangeShapes Go.WideShapes Go.ChangeAt Go.RowKit Go.WW Go.Deep
theorem laidOut:laidOutB Tryz.prog=true:=Facts.j1
theorem XD:Tryz.prog.readableRec 36=true:=by kernel_rfl
theorem XE:36<Tryz.prog.types.size:=of_decide_eq_true (by kernel_rfl)
section
variable {H:Type} {enc:TypeId×Value→H}
theorem XF{W:World}{b0:Nat}{v:Value}{d:DataW H}{p:List MemPlace}(hv:Value.okWide Tryz.prog W .any b0 36 v)(h:DataW.Trod enc Tryz.prog W 0 (fun _=>true) true 36 v d p)(hb:Rows.uptoBulk d≤1048576) :
  ∃x s r,v=.agg (aH x s r)∧dV W s r x:=by
 obtain⟨cs,rfl,_⟩:=okWide_struct Tryz.underlying36 hv
 obtain⟨fuel,hf⟩:=h
 obtain⟨x,s,r,he,h1⟩:=alX hf hb
 have h0:cs=aH x s r:=Array.toList_inj.1 (show cs.toList=_ from he)
 exact⟨x,s,r,by rw[h0],h1⟩
theorem stays{W W':World}{t:TypeId}{v:Value}{d:DataW H}{ps:List MemPlace}(hr:Tryz.prog.readableRec t=true)(hrow:t<Tryz.prog.types.size)(h:DataW.Trod enc Tryz.prog W 0 (fun _=>true) true t v d ps)(hb:Below W.heap.size W W')(hlt:∀x∈ps,x.block<W.heap.size)
  {sp:Nat→Bool} (hsp:∀x∈ps,sp x.block=true):DataW.Trod enc Tryz.prog W' 0 sp true t v d ps:=
 WideElems.Trod_stays laidOut hr hrow h (fun x hx=>hb.same (hlt x hx)) hsp
theorem alY{f:Func}{s:ChangeSpec}{fresh handsOn again apart:Bool}{W W':World}{args:Array Value}{v:Value}{ds:List (DataW H)}{before:List MemPlace}
  (hW:DataW.Whole enc Tryz.prog f.params.toList s.vars apart W args.toList ds [] before)
  (hres:∀(b:Nat) (sp:Nat→Bool) (hd:Bool),DataW.TrodAll enc Tryz.prog W' b sp hd f.resultTypes.toList (v.resultList f.resultTypes.size) (s.fn H (ds++[])).results [])
  (hargs:∀sp:Nat→Bool,(∀p∈before,sp p.block=true)→DataW.TrodAll enc Tryz.prog W' 0 sp true f.params.toList args.toList (s.fn H (ds++[])).args before)
  (hvars:∀sp:Nat→Bool,DataW.TrodVars enc Tryz.prog W' sp s.vars (s.fn H (ds++[])).vars [])
  (hb:Below W.heap.size W W') (hok:∀(j:Nat) (t:TypeId) (r:Value),f.resultTypes[j]?=some t→(v.resultList f.resultTypes.size)[j]?=some r→Value.okWide Tryz.prog W' .any 0 t r) :
  s.post enc Tryz.prog f apart fresh handsOn again W args v W':=by
 have hold:∀q∈before,decide (q.block<W.heap.size)=true:=fun q hq=>by simpa using hW.lt q hq
 have hlt:=hW.lt
 refine⟨ds,[],before,[],before,[],hW,hres _ _ _,hargs _ hold,hvars _,World.keptBut_mono (fun q hq=>⟨hq,.inr (.inl hq)⟩) (hb.frame (·∈before)),fun _=>?_⟩
 obtain⟨_,_,_,_,_,hz,hn⟩:=hW
 refine⟨hok,_,_,([]++before)++[],⟨[]++before,[],trodAll_append (hargs _ (fun _ _=>rfl)) (hres _ _ _),hvars _,rfl,fun b off hq=>?_,fun ha=>?_⟩,fun q hq _=>?_⟩
 ·have hin:MemPlace.cell b off∈before:=by simpa using hq
  rw[hb.frozen (hlt _ hin)]
  exact hz b off hin
 ·simpa using hn ha
 ·simpa using hq
end
end Go.Proofs.YtibhckkjciflaaaGreatDoor
namespace Go.Proofs.YtibhckkjciflaaaGreatDoor.Facts
open Go
theorem gY{a b:Bool}(h:a=true)(k:b=true):(a&&b)=true:=by rw[h,k];rfl
theorem closed:joinedFacts Tryz.prog 3 Tryz.f3 Rows.updateEncodesSpec Rows.updateEncodesUptoRow=true:=gY (gY (gY (gY (gY (gY (gY (gY (gY (gY (gY (gY (gY (gY (gY (gY (gY (gY (gY (gY (gY (gY (gY (gY (gY (gY (gY (gY (gY (gY (gY (j0) j1) j2) j3) j4) j5) j6) j7) j8) j9) j10) j11) j12) j13) j14) j15) j16) j17) j18) j19) j20) j21) j22) j23) j24) j25) j26) j27) j28) j29) j30) j31
end Go.Proofs.YtibhckkjciflaaaGreatDoor.Facts
