/- A part of the proof. -/
import Derived.Test.YtibhckkjciflaaaGreatDoorA03
namespace Go.aI
variable [O:dw]
open Go.RowKit
section ops
variable {E:Env} {P:Program} {B:Nat→Prop} {W0:World} {σ:Sg} {V:Nat→Prop} {h:MH} {w:World} {ev:Ev} {ρ:Operand→Value}
omit O in
theorem ag9(f:Field)(fs:List Field)(xs ys:List MV):eqFields E (f::fs) xs ys=(match dK E f.type with
  |some F=>cond (or (uO F) (decide (f.name = "_"))) none (match iU xs f.offset,iU ys f.offset with
   |some x,some y=>match mg F.und x y with
    |some true=>eqFields E fs xs ys
    |some false=>some false
    |none=>none
   |_,_=>none)
  |none=>none):=rfl
theorem aha(hE:bT E P){xs ys:List MV}(hx:wfs σ V xs)(hy:wfs σ V ys)(h1:ones xs=true)(h2:ones ys=true)(n:Nat)(w:World) :
  ∀(fs:List Field) (b:Bool),eqFields E fs xs ys=some b→
   (forIn (m:=Sem) fs ((none,()):Option Bool×Unit) (fun f _=>do
    if f.name≠ "_" then
     if !(←Op.equalIn (n+1) f.type (←part f.type ⟨aF σ xs⟩ f.offset) (←part f.type ⟨aF σ ys⟩ f.offset))then
      pure (ForInStep.done (some false,()))
     else pure (ForInStep.yield (none,()))
    else pure (ForInStep.yield (none,())))).run P w=.ok (if b then(none,())else(some false,())) w:=by
 intro fs
 induction fs with
 |nil=>
   intro b hb;have e:eqFields E [] xs ys=some true:=rfl
   rw[e]at hb;cases hb;rfl
 |cons f fs ih=>
  intro b hb
  rw[ag9]at hb
  split at hb
  ·rename_i F hF
   cases hc:(or (uO F) (decide (f.name = "_")))with
   |true=>rw[hc]at hb;cases hb
   |false=>
    rw[hc]at hb
    simp only[cond_false]at hb
    simp only[Bool.or_eq_false_iff,decide_eq_false_iff_not]at hc
    split at hb
    ·rename_i x y hlx hly
     have px:partOf F xs f.offset=some x:=by unfold partOf;rw[hc.1];exact hlx
     have py:partOf F ys f.offset=some y:=by unfold partOf;rw[hc.1];exact hly
     obtain⟨wx,rx⟩:=FW hE hF hx h1 px w
     obtain⟨wy,ry⟩:=FW hE hF hy h2 py w
     have hu:=(hE.ty _ F hF).2
     simp only[List.forIn_cons]
     split at hb
     ·rename_i he
      have hq:=FZ (P:=P) (σ:=σ) (V:=V) hu wx wy he n w
      simp only[hc.2,ne_eq,not_false_eq_true,if_true,bind_assoc]
      rw[Sem.bind_ok rx,Sem.bind_ok ry,Sem.bind_ok hq]
      simp only[Bool.not_true,Bool.false_eq_true,if_false,pure_bind]
      exact ih b hb
     ·rename_i he
      have hq:=FZ (P:=P) (σ:=σ) (V:=V) hu wx wy he n w
      cases hb
      simp only[hc.2,ne_eq,not_false_eq_true,if_true,bind_assoc]
      rw[Sem.bind_ok rx,Sem.bind_ok ry,Sem.bind_ok hq]
      simp
     ·cases hb
    ·cases hb
  ·cases hb
theorem ahc(hE:bT E P){t:TypeId}{fs:Array Field}{xs ys:List MV}{b:Bool}(hu:P.underlying t=some (.struct fs))(hs:P.stoodInHeld t=false)
  (hx:wfs σ V xs) (hy:wfs σ V ys) (h1:ones xs=true) (h2:ones ys=true) (he:eqFields E fs.toList xs ys=some b) (w:World) :
  (Op.equal t (.agg ⟨aF σ xs⟩) (.agg ⟨aF σ ys⟩)).run P w=.ok b w:=by
 have key:=aha hE hx hy h1 h2 9998 w fs.toList b he
 unfold Op.equal Op.maxDepth
 unfold Op.equalIn
 rw[Sem.bind_ok (dD hu w)]
 simp only[]
 rw[Sem.bind_ok (show(program).run P w=.ok P w from rfl)]
 simp only[hs,Bool.false_eq_true,if_false]
 rw[←Array.forIn_toList]
 rw[Sem.bind_ok key]
 cases b<;>rfl
omit O in
theorem Gf{op:BinOp}{t:TypeId}{x y:Operand}{a b:Value}(ha:a≠.nilIface)(hb:∀c,a≠.agg c)(w:World):(eqGuard op t x y a b).run P w=.ok () w:=by
 unfold eqGuard
 cases a<;>first|exact absurd rfl ha|exact absurd rfl (hb _)|(cases op<;>rfl)
omit O in
theorem ahe(op:BinOp)(t:TypeId)(k k':IntKind)(a b:Int):binOp op t (.int k a) (.int k' b)=binOp op 0 (.int k a) (.int k' b):=by cases op<;>rfl
omit O in
theorem ahf(op:BinOp)(t:TypeId)(a b:ByteArray):binOp op t (.string a) (.string b)=Op.stringOp op a b:=by cases op<;>rfl
theorem binOp_eql{t:TypeId}{x y:MV}(hp:uQ x y=true):binOp .eql t (ae σ x) (ae σ y)=(do pure (.bool (←Op.equal t (ae σ x) (ae σ y)))):=by
 cases x<;>cases y<;>first|(simp only[uQ,Bool.false_eq_true]at hp;done)|rfl
theorem binOp_neq{t:TypeId}{x y:MV}(hp:uQ x y=true):binOp .neq t (ae σ x) (ae σ y)=(do pure (.bool (!(←Op.equal t (ae σ x) (ae σ y))))):=by
 cases x<;>cases y<;>first|(simp only[uQ,Bool.false_eq_true]at hp;done)|rfl
theorem ahg{x y:MV}(hp:uQ x y=true):ae σ x≠.nilIface∧∀c,ae σ x≠.agg c:=by
 cases x<;>first|(constructor<;>simp[ae];done)|(exfalso;cases y<;>simp[uQ]at hp)
theorem ahh(hE:bT E P){op:BinOp}{t:TypeId}{x y:MV}{v:MV}(hx:wf σ V x)(hy:wf σ V y)(ho:KQ E op t x y=some v)(xo yo:Operand)(w:World) :
  wf σ V v∧(do eqGuard op t xo yo (ae σ x) (ae σ y);binOp op t (ae σ x) (ae σ y)).run P w=.ok (ae σ v) w:=by
 unfold KQ at ho
 split at ho
 ·rename_i k a k' b
  unfold UB at ho
  obtain⟨h1,h2⟩:=U1 (P:=P) σ V ho w
  refine⟨h1,?_⟩
  rw[Sem.bind_ok (Gf (by simp[ae]) (by simp[ae]) w)]
  simp only[ae]
  rw[ahe];exact h2
 ·rename_i a b
  simp only[wf]at hx hy
  obtain⟨h1,h2⟩:=ag8 (P:=P) (σ:=σ) (V:=V) hx hy ho w
  refine⟨h1,?_⟩
  rw[Sem.bind_ok (Gf (by simp[ae]) (by simp[ae]) w)]
  simp only[ae]
  rw[ahf];exact h2
 ·cases hp:uQ x y with
  |false=>rw[hp]at ho;cases ho
  |true=>
   rw[hp]at ho
   simp only[cond_true]at ho
   obtain⟨p1,p2⟩:=ahg (σ:=σ) hp
   rw[Sem.bind_ok (Gf p1 p2 w)]
   split at ho
   ·rename_i T hT
    have hu:=(hE.ty t T hT).2
    split at ho
    ·split at ho
     ·rename_i b hb
      cases ho
      refine⟨trivial,?_⟩
      rw[binOp_eql hp]
      exact(Sem.bind_ok (FZ (P:=P) hu hx hy hb 9999 w)).trans rfl
     ·cases ho
    ·split at ho
     ·rename_i b hb
      cases ho
      refine⟨trivial,?_⟩
      rw[binOp_neq hp]
      exact(Sem.bind_ok (FZ (P:=P) hu hx hy hb 9999 w)).trans rfl
     ·cases ho
    ·cases ho
   ·cases ho
omit O in
theorem ahi{op:BinOp}{t:TypeId}{x y:Operand}{a b:Array Value}(hg:P.eqGuardType P.depth t=false)(w:World):(eqGuard op t x y (.agg a) (.agg b)).run P w=.ok () w:=by
 unfold eqGuard
 cases op<;>first|rfl|(simp[hg])
omit O in
theorem ahj{op:BinOp}{t:TypeId}{x y:Operand}(hq:or (isConst x) (isConst y)=true)(w:World):(eqGuard op t x y .nilIface .nilIface).run P w=.ok () w:=by
 unfold eqGuard
 cases x<;>cases y<;>first|(cases hq;done)|(cases op<;>rfl)
omit O in
theorem ahk{t:TypeId}{ms:Array (String×TypeId)}(hu:P.underlying t=some (.interface ms))(w:World):(Op.equal t .nilIface .nilIface).run P w=.ok true w:=by
 unfold Op.equal Op.maxDepth
 unfold Op.equalIn
 rw[Sem.bind_ok (dD hu w)]
 rfl
theorem ahl(hE:bT E P)(hev:fB σ V ev ρ){op:BinOp}{t:TypeId}{x y:Operand}{v:MV}(ho:zh E ev op t x y=some (.val v))(w:World) :
  wf σ V v∧(do eqGuard op t x y (ρ x) (ρ y);binOp op t (ρ x) (ρ y)).run P w=.ok (ae σ v) w:=by
 unfold zh at ho
 split at ho
 ·rename_i a b hx hy
  obtain⟨h1,h2⟩:=hev x _ hx
  obtain⟨h3,h4⟩:=hev y _ hy
  simp only[wf]at h1 h3
  rw[h2,h4]
  split at ho
  ·rename_i T hT
   have hu:=(hE.ty t T hT).2
   split at ho
   iterate 2
    ·rename_i fs hd
     rw[hd]at hu
     cases hc:E.cmp t with
     |false=>rw[hc]at ho;cases ho
     |true=>
      rw[hc]at ho
      simp only[cond_true]at ho
      obtain⟨c1,c2⟩:=hE.cmp t hc
      split at ho
      ·rename_i r hr
       cases ho
       refine⟨trivial,?_⟩
       simp only[ae]
       rw[Sem.bind_ok (ahi c1 w)]
       exact(Sem.bind_ok (ahc hE hu c2 h1.1 h3.1 h1.2 h3.2 hr w)).trans rfl
      ·cases ho
   ·cases ho
  ·cases ho
 ·rename_i hx hy
  rw[(hev x _ hx).2,(hev y _ hy).2]
  cases hq:or (isConst x) (isConst y)with
  |false=>rw[hq]at ho;cases ho
  |true=>
   rw[hq]at ho
   simp only[cond_true]at ho
   simp only[ae]
   rw[Sem.bind_ok (ahj hq w)]
   split at ho
   ·rename_i T hT
    have hu:=(hE.ty t T hT).2
    split at ho
    iterate 2
     ·rename_i ms hd
      rw[hd]at hu
      cases ho
      exact⟨trivial,(Sem.bind_ok (ahk hu w)).trans rfl⟩
    ·cases ho
   ·cases ho
 ·rename_i xv yv hx hy
  obtain⟨h1,h2⟩:=hev x _ hx
  obtain⟨h3,h4⟩:=hev y _ hy
  rw[h2,h4]
  exact ahh hE h1 h3 (oC ho) x y w
 ·cases ho
theorem ahm(hE:bT E P)(hev:fB σ V ev ρ){op:BinOp}{t:TypeId}{x y:Operand}{v:MV}(ho:zi E ev op t x y=some (.val v))(w:World) :
  wf σ V v∧(do eqGuard op t x y (ρ x) (ρ y);binOp op t (ρ x) (ρ y)).run P w=.ok (ae σ v) w:=by
 unfold zi at ho
 split at ho
 ·rename_i u hu
  cases ho
  unfold Lh at hu
  split at hu
  ·rename_i a b hx hy
   obtain⟨h1,h2⟩:=hev x _ hx
   obtain⟨h3,h4⟩:=hev y _ hy
   obtain⟨k1,k2,k3⟩:=hE.bo op t a b _ hu σ V h1 h3
   refine⟨k1,?_⟩
   rw[h2,h4,Sem.bind_ok (Gf k2.1 k2.2 w)]
   exact k3 w
  ·cases hu
 ·exact ahl hE hev ho w
theorem ahn(hev:fB σ V ev ρ){op:UnOp}{x:Operand}{v:MV}(ho:zk ev op x=some (.val v))(w:World) :
  wf σ V v∧(Op.unary op (ρ x)).run P w=.ok (ae σ v) w:=by
 unfold zk at ho
 split at ho
 ·rename_i b hx
  rw[(hev x _ hx).2]
  split at ho
  ·cases ho;exact⟨trivial,rfl⟩
  ·cases ho
 ·rename_i k n hx
  rw[(hev x _ hx).2]
  exact U1 σ V (oC ho) w
 ·cases ho
theorem aho(hev:fB σ V ev ρ){c a b:Operand}{v:MV}(ho:yX ev c a b=some (.val v))(w:World) :
  wf σ V v∧(do pure (.value (if ←asBool (ρ c)then ρ a else ρ b)):Sem Next).run P w=.ok (.value (ae σ v)) w:=by
 unfold yX at ho
 split at ho
 ·rename_i t hc
  rw[(hev c _ hc).2]
  simp only[ae,asBool,pure_bind,Sem.run_pure]
  cases t with
  |true=>obtain⟨h1,h2⟩:=hev a v (oC ho);exact⟨h1,by simp[h2]⟩
  |false=>obtain⟨h1,h2⟩:=hev b v (oC ho);exact⟨h1,by simp[h2]⟩
 ·cases ho
theorem ahp(hev:fB σ V ev ρ){o:Oper}{x:Operand}{v:MV}(hop:o.op=.nilCheck x)(ho:zg ev x=some (.val v))(w:World) :
  wf σ V v∧(execOp ρ o).run P w=.ok (.value (ae σ v)) w:=by
 unfold zg at ho
 unfold execOp
 simp only[hop]
 split at ho
 iterate 4
  ·rename_i hx;obtain⟨h1,h2⟩:=hev x _ hx;cases ho;exact⟨h1,by rw[h2];rfl⟩
 ·cases ho
theorem ahq(hev:fB σ V ev ρ){fn:Fn}{first captured:Array Operand}{v:MV}(ho:zl ev fn first captured=some (.val v))(w:World) :
  wf σ V v∧(Instr.makeFunc fn (first.map ρ) (captured.map ρ)).run P w=.ok (ae σ v) w:=by
 unfold zl at ho
 split at ho
 ·rename_i f a b ha hb
  cases ho
  obtain⟨h1,h2⟩:=LM hev _ _ ha
  obtain⟨h3,h4⟩:=LM hev _ _ hb
  refine⟨by simp only[wf];exact⟨h1,h3⟩,?_⟩
  unfold Instr.makeFunc
  simp only[Sem.run_pure,ae,←h2,←h4]
  congr 3<;>(rw[←Array.toList_inj];simp)
 ·cases ho
theorem ahr(hev:fB σ V ev ρ){t:Operand}{i:Nat}{v:MV}(ho:zA ev t i=some (.val v))(w:World) :
  wf σ V v∧(Instr.extract (ρ t) i).run P w=.ok (ae σ v) w:=by
 unfold zA at ho
 split at ho
 ·rename_i vs ht
  obtain⟨h1,h2⟩:=hev t _ ht
  simp only[wf]at h1
  have hl:=oC ho
  rw[uZ]at hl
  refine⟨(fP _).1 h1 v (List.mem_of_getElem? hl),?_⟩
  rw[h2]
  have:(⟨aF σ vs⟩:Array Value)[i]?=some (ae σ v):=by rw[dS];simp[hl]
  simp only[ae,Instr.extract,this,Sem.run_pure]
 ·cases ho
theorem ahs(hE:bT E P)(hev:fB σ V ev ρ){t:TypeId}{x i:Operand}{v:MV}(ho:zu E ev t x i=some (.val v))(w:World) :
  wf σ V v∧(Instr.index t (ρ x) (ρ i)).run P w=.ok (ae σ v) w:=by
 unfold zu at ho
 split at ho
 ·rename_i T xv n hT hx hn
  obtain⟨k,hk⟩:=FX hev hn
  obtain⟨h1,h2⟩:=hev x _ hx
  obtain⟨hi,hu⟩:=hE.ty t T hT
  unfold Instr.index
  rw[hk]
  simp only[asIntOf,pure_bind]
  rw[Sem.bind_ok (dD hu w),h2]
  split at ho
  ·rename_i m e cs hd
   simp only[wf]at h1
   split at ho
   ·rename_i Te hTe
    cases hb:Nat.blt n m with
    |false=>rw[hb]at ho;cases ho
    |true=>
     rw[hb]at ho
     simp only[cond_true]at ho
     have hlt:(0:Int)≤Int.ofNat n∧Int.ofNat n<(m:Int):=⟨Int.natCast_nonneg n,by simpa[Nat.blt_eq]using hb⟩
     have:=FW hE hTe h1.1 h1.2 (oC ho) w
     refine⟨this.1,?_⟩
     simp only[hd,ae,hlt,and_self,if_true]
     rw[Sem.bind_ok (sV (hE.ty e Te hTe).1 w)]
     exact this.2
   ·cases ho
  ·rename_i s hd
   simp only[wf]at h1
   split at ho
   ·rename_i b hb
    cases ho
    rw[uZ]at hb
    have hlt:n<s.length:=(List.getElem?_eq_some_iff.1 hb).1
    have hb256:=h1 b (List.mem_of_getElem? hb)
    refine⟨trivial,?_⟩
    have hsz:n<(bytesV s).size:=by rw[qI];exact hlt
    have hget:(bytesV s)[n]?=some (UInt8.ofNat b):=by
     rw[getElem?_pos (bytesV s) n hsz]
     congr 1
     have:(bytesV s)[n]=(s.map UInt8.ofNat)[n]'(by simpa using hlt):=by simp[bytesV,ByteArray.getElem_eq_getElem_data]
     rw[this,List.getElem_map]
     congr 1
     rw[List.getElem?_eq_getElem hlt]at hb
     exact Option.some.inj hb
    simp only[hd,ae,Int.ofNat_eq_natCast,Int.toNat_natCast,hget]
    congr 2
    simp
    omega
   ·cases ho
  ·cases ho
 ·cases ho
end ops
end Go.aI
namespace Go.aI
variable [O:dw]
open Go.RowKit
omit O in
theorem jf{a b:Nat}(h:Nat.blt a b=true):a<b:=Nat.le_of_ble_eq_true h
omit O in
theorem CS{a b:Nat}(h:a<b):Nat.blt a b=true:=Nat.ble_eq_true_of_le h
omit O in
theorem dL{a b:Bool}(h:and a b=true):a=true∧b=true:=by simpa using h
section ops
variable {E:Env} {P:Program} {B:Nat→Prop} {W0:World} {σ:Sg} {V:Nat→Prop} {h:MH} {w:World} {ev:Ev} {ρ:Operand→Value}
theorem Gg(hev:fB σ V ev ρ){o:Option Operand}{r:Option Nat}(ho:oP ev o=some r) :
  (o=none∧r=none)∨∃k n,o.map ρ=some (.int k (.ofNat n))∧r=some n:=by
 unfold oP at ho
 split at ho
 ·cases ho;exact .inl ⟨rfl,rfl⟩
 ·rename_i x
  split at ho
  ·rename_i v hv
   split at ho
   ·rename_i n hn
    cases ho
    obtain⟨k,rfl⟩:=U0 hn
    exact .inr ⟨k,n,by simp[(hev x _ hv).2,ae],rfl⟩
   ·cases ho
  ·cases ho
omit O in
theorem aht{k:IntKind}{n y:Nat}{c:BoundsCode}(hn:n≤y)(w:World):(Instr.sliceBound (.int k (.ofNat n)) y c).run P w=.ok n w:=by
 unfold Instr.sliceBound
 simp only[asIntOf,pure_bind]
 rw[if_pos ⟨Int.natCast_nonneg n,by simpa using hn⟩]
 rfl
theorem xF(hev:fB σ V ev ρ){lo hi mx:Option Operand}{lo' hi' mx':Option Nat}(h1:oP ev lo=some lo')(h2:oP ev hi=some hi')(h3:oP ev mx=some mx')
  (hnm:∀m,mx'=some m→hi'≠none) (isS:Bool) {len cap:Nat} (c1:od lo' 0≤od hi' len) (c2:od hi' len≤od mx' cap) (c3:od mx' cap≤cap) (w:World) :
  (Instr.sliceBounds isS len cap (lo.map ρ) (hi.map ρ) (mx.map ρ)).run P w=.ok (od lo' 0,od hi' len,od mx' cap) w:=by
 unfold Instr.sliceBounds
 rcases Gg hev h3 with⟨rfl,rfl⟩|⟨km,nm,em,rfl⟩<;>rcases Gg hev h2 with⟨rfl,rfl⟩|⟨kh,nh,eh,rfl⟩<;>
  rcases Gg hev h1 with⟨rfl,rfl⟩|⟨kl,nl,el,rfl⟩
 all_goals first|exact absurd rfl (hnm _ rfl)|skip
 all_goals
  simp only[od]at c1 c2 c3 ⊢
  simp only[*,Option.map_none,pure_bind]
  repeat rw[Sem.bind_ok (aht (by omega) w)]
  try rfl
omit O in
theorem LV{m l x y:Nat}{a b:Addr}{w:World}:(Result.ok (Value.slice (if m=l then some a else some b) x y) w)=.ok (.slice (some (if m=l then a else b)) x y) w:=by split<;>rfl
theorem LW{id off cap es lo hi mx:Nat}{v:MV}(hv:V id)(ho:yS id off cap es lo hi mx=some (.val v)) :
  lo≤hi∧hi≤mx∧mx≤cap∧wf σ V v∧ae σ v=.slice (some (if mx=lo then⟨(σ id).blk,(σ id).off+off,none⟩else⟨(σ id).blk,(σ id).off+off+lo*es,none⟩)) (hi-lo) (mx-lo):=by
 unfold yS at ho
 cases hc:(and (Nat.ble lo hi) (and (Nat.ble hi mx) (Nat.ble mx cap)))with
 |false=>rw[hc]at ho;cases ho
 |true=>
  rw[hc]at ho
  simp only[cond_true,Option.some.injEq,MR.val.injEq]at ho
  subst ho
  obtain⟨c1,c2⟩:=dL hc
  obtain⟨c2,c3⟩:=dL c2
  have c1:=Nat.le_of_ble_eq_true c1
  have c2:=Nat.le_of_ble_eq_true c2
  have c3:=Nat.le_of_ble_eq_true c3
  refine⟨c1,c2,c3,?_,?_⟩
  ·simp only[wf];exact⟨hv,by show hi-lo≤mx-lo;omega⟩
  ·simp only[ae]
   by_cases e:mx=lo
   ·subst e;simp
   ·have:Nat.beq mx lo=false:=by cases hb:Nat.beq mx lo;rfl;exact absurd (Nat.eq_of_beq_eq_true hb) e
    rw[this,if_neg e]
    simp[Nat.add_assoc]
theorem ahu{id off l len es lo hi:Nat}{v:MV}(hv:V id)(hl:l+len≤(σ id).cap)(ho:Fj id off l len es lo hi=some (.val v)) :
  lo≤hi∧hi≤len∧wf σ V v∧
   ae σ v=.slice (some (if(σ id).cap-l=lo then⟨(σ id).blk,(σ id).off+off,none⟩else⟨(σ id).blk,(σ id).off+off+lo*es,none⟩)) (hi-lo) ((σ id).cap-l-lo):=by
 unfold Fj at ho
 cases hc:(and (Nat.ble lo hi) (Nat.ble hi len))with
 |false=>rw[hc]at ho;cases ho
 |true=>
  rw[hc]at ho
  simp only[cond_true,Option.some.injEq,MR.val.injEq]at ho
  subst ho
  obtain⟨c1,c2⟩:=dL hc
  have c1:=Nat.le_of_ble_eq_true c1
  have c2:=Nat.le_of_ble_eq_true c2
  refine⟨c1,c2,?_⟩
  cases hd:(or (Nat.blt lo hi) (Nat.beq lo 0))with
  |true=>
   simp only[cond_true]
   refine⟨by simp only[wf];exact⟨hv,by show l+lo+(hi-lo)≤_;omega⟩,?_⟩
   simp only[ae,Nat.add_eq,Nat.mul_eq,Nat.sub_eq]
   by_cases e:(σ id).cap-l=lo
   ·rw[if_pos e]
    have h0:lo=0:=by
     rcases Bool.or_eq_true_iff.1 hd with h|h
     ·have:=jf h;omega
     ·exact Nat.eq_of_beq_eq_true h
    subst h0
    simp
   ·rw[if_neg e,Nat.add_assoc,Nat.sub_sub]
  |false=>
   simp only[cond_false]
   have hne:¬lo<hi:=fun h=>by
    have:Nat.blt lo hi=true:=CS h
    rw[this]at hd;cases hd
   refine⟨by simp only[wf];exact⟨hv,by show l+lo≤_;omega⟩,?_⟩
   have e0:hi-lo=0:=by omega
   simp only[ae,Nat.add_eq,Nat.mul_eq,e0]
   by_cases e:(σ id).cap-l=lo
   ·rw[if_pos e,if_pos (by omega),Nat.sub_sub]
   ·rw[if_neg e,if_neg (by omega),Nat.add_assoc,Nat.sub_sub]
theorem ahv(hE:bT E P)(hev:fB σ V ev ρ){t:TypeId}{x:Operand}{lo hi mx:Option Operand}{v:MV}(ho:zn E ev t x lo hi mx=some (.val v))(w:World) :
  wf σ V v∧(Instr.sliceAt t (ρ x) (lo.map ρ) (hi.map ρ) (mx.map ρ)).run P w=.ok (ae σ v) w:=by
 unfold zn at ho
 split at ho
 ·rename_i xv lo' hi' mx' hx hlo hhi hmx
  obtain⟨g1,g2⟩:=hev x _ hx
  split at ho
  ·cases ho
  ·rename_i ahw
   have hnm:∀m,mx'=some m→hi'≠none:=fun m hm hn=>ahw m hn hm
   unfold KU at ho
   split at ho
   ·cases ho
   ·rename_i T hT
    obtain⟨hi0,hu⟩:=hE.ty t T hT
    unfold Instr.sliceAt
    rw[Sem.bind_ok (dD hu w),g2]
    split at ho
    ·
     rename_i s hd
     rw[hd]at hu
     simp only[wf]at g1
     split at ho
     ·cases ho
     ·cases hc:(and (Nat.ble (od lo' 0) (od hi' (dC s 0))) (Nat.ble (od hi' (dC s 0)) (dC s 0)))with
      |false=>rw[hc]at ho;cases ho
      |true=>
       rw[hc]at ho
       simp only[cond_true]at ho
       obtain⟨c1,c2⟩:=dL hc
       have c1:=Nat.le_of_ble_eq_true c1
       have c2:=Nat.le_of_ble_eq_true c2
       split at ho
       ·rename_i r hr
        cases ho
        obtain⟨hn,rfl⟩:=sU hr
        rw[CG]
        refine⟨by simp only[wf];exact fun b hb=>g1 b (List.mem_of_mem_drop (List.mem_of_mem_take hb)),?_⟩
        have ahx:mx.map ρ=none:=by rcases Gg hev hmx with⟨rfl,-⟩|⟨k,n,e,e'⟩;rfl;cases e'
        rw[jl]at c1 c2
        rw[jl]
        simp only[Nat.add_zero]at c1 c2 ⊢
        have hbd:=xF (P:=P) hev hlo hhi (show oP ev (none:Option Operand)=some none from rfl) (fun m hm=>by cases hm) false (len:=s.length) (cap:=s.length) c1 (show od hi' s.length≤od none s.length from c2) (Nat.le_refl _) w
        simp only[hd,ae]
        unfold Instr.slice
        rw[Sem.bind_ok (dD hu w)]
        simp only[ahx,Option.isSome_none,Bool.false_eq_true,if_false,qI]
        simp only[Option.map_none]at hbd
        rw[Sem.bind_ok hbd]
        simp only[Sem.run_pure]
        congr 2
        apply ByteArray.ext
        simp[bytesV,List.map_take,List.map_drop,List.extract_eq_take_drop]
       ·cases ho
    ·
     rename_i e id off len cap hd
     rw[hd]at hu
     simp only[wf]at g1
     split at ho
     ·rename_i es hes
      obtain⟨c1,c2,c3,c4,c5⟩:=LW (σ:=σ) (V:=V) g1.1 ho
      refine⟨c4,?_⟩
      simp only[hd,ae]
      unfold Instr.slice
      rw[Sem.bind_ok (dD hu w)]
      simp only[]
      rw[Sem.bind_ok (xF hev hlo hhi hmx hnm true c1 c2 c3 w),Sem.bind_ok (pW hE hes w),c5]
      simp only[Sem.run_pure,Option.map_some,Addr.add_lit]
      exact LV
     ·cases ho
    ·
     rename_i e id off l len hd
     rw[hd]at hu
     simp only[wf]at g1
     split at ho
     ·rename_i es hes
      split at ho
      ·rename_i m
       obtain⟨c1,c2,c3,c4,c5⟩:=LW (σ:=σ) (V:=V) g1.1 ho
       refine⟨c4,?_⟩
       simp only[hd,ae]
       unfold Instr.slice
       rw[Sem.bind_ok (dD hu w)]
       simp only[]
       have c3':od (some m) ((σ id).cap-l)≤(σ id).cap-l:=by show m≤_;omega
       rw[Sem.bind_ok (xF hev hlo hhi hmx hnm true c1 (show od hi' len≤od (some m) ((σ id).cap-l) from c2) c3' w),Sem.bind_ok (pW hE hes w),c5]
       simp only[Sem.run_pure,Option.map_some,Addr.add_lit]
       exact LV
      ·obtain⟨c1,c2,c4,c5⟩:=ahu (σ:=σ) (V:=V) g1.1 g1.2 ho
       refine⟨c4,?_⟩
       simp only[hd,ae]
       unfold Instr.slice
       rw[Sem.bind_ok (dD hu w)]
       simp only[]
       rw[Sem.bind_ok (xF hev hlo hhi hmx hnm true c1 (show od hi' len≤od none ((σ id).cap-l) by show _≤(σ id).cap-l;omega) (Nat.le_refl _) w),Sem.bind_ok (pW hE hes w),c5]
       simp only[Sem.run_pure,Option.map_some,Addr.add_lit]
       exact LV
     ·cases ho
    ·
     rename_i e hd
     rw[hd]at hu
     split at ho
     ·rename_i es hes
      cases hc:(and (Nat.beq (od lo' 0) 0) (and (Nat.beq (od hi' 0) 0) (Nat.beq (od mx' 0) 0)))with
      |false=>rw[hc]at ho;cases ho
      |true=>
       rw[hc]at ho
       simp only[cond_true,Option.some.injEq,MR.val.injEq]at ho
       subst ho
       obtain⟨c1,c2⟩:=dL hc
       obtain⟨c2,c3⟩:=dL c2
       have c1:=Nat.eq_of_beq_eq_true c1
       have c2:=Nat.eq_of_beq_eq_true c2
       have c3:=Nat.eq_of_beq_eq_true c3
       refine⟨trivial,?_⟩
       simp only[hd,ae]
       unfold Instr.slice
       rw[Sem.bind_ok (dD hu w)]
       simp only[]
       rw[Sem.bind_ok (xF hev hlo hhi hmx hnm true (by omega) (by omega) (by omega) w),Sem.bind_ok (pW hE hes w)]
       simp only[c1,c2,c3,Sem.run_pure]
       rfl
     ·cases ho
    ·
     rename_i e id a b l hd
     rw[hd]at hu
     simp only[wf]at g1
     split at ho
     ·rename_i es hes
      cases hc:(and (Nat.beq (od lo' 0) 0) (Nat.beq (od hi' 0) 0))with
      |false=>rw[hc]at ho;cases ho
      |true=>
       rw[hc]at ho
       simp only[cond_true,Option.some.injEq,MR.val.injEq]at ho
       subst ho
       obtain⟨c1,c2⟩:=dL hc
       have c1:=Nat.eq_of_beq_eq_true c1
       have c2:=Nat.eq_of_beq_eq_true c2
       refine⟨by simp only[wf];exact g1,?_⟩
       simp only[hd,ae]
       unfold Instr.slice
       rw[Sem.bind_ok (dD hu w)]
       simp only[]
       rw[Sem.bind_ok (xF hev hlo hhi hmx hnm true (by omega) (show od hi' 0≤od none ((σ id).cap-l) by omega) (Nat.le_refl _) w),Sem.bind_ok (pW hE hes w)]
       simp only[c1,c2,Sem.run_pure,Option.map_some,Addr.add_lit,Nat.zero_mul,Nat.add_zero,ite_self]
       rfl
     ·cases ho
    ·
     rename_i n e id off hd
     rw[hd]at hu
     simp only[wf]at g1
     split at ho
     ·rename_i es hes
      obtain⟨c1,c2,c3,c4,c5⟩:=LW (σ:=σ) (V:=V) g1 ho
      refine⟨c4,?_⟩
      simp only[hd,ae,Instr.sureAddr,pure_bind]
      rw[Sem.bind_ok (xF hev hlo hhi hmx hnm false c1 c2 c3 w),Sem.bind_ok (pW hE hes w),c5]
      simp only[Sem.run_pure,Addr.add_lit]
     ·cases ho
    ·cases ho
 ·cases ho
end ops
end Go.aI
namespace Go.aI
variable [O:dw]
open Go.RowKit
section ops
variable {E:Env} {P:Program} {B:Nat→Prop} {W0:World} {σ:Sg} {V:Nat→Prop} {h:MH} {w:World} {ev:Ev} {ρ:Operand→Value}
omit O in
theorem LX{T:MT}(hb:isByte T=true):T.und=.int .u8:=by
 unfold isByte at hb
 split at hb
 ·assumption
 ·cases hb
omit O in
theorem ahy(v:MV)(l:List MV):bytesOf (v::l)=(match v with
  | .int .u8 (.ofNat n)=>cond (Nat.blt n 256) (match bytesOf l with|some r=>some (n::r)|none=>none) none
  |_=>none):=rfl
omit O in
theorem U6:∀(l:List MV) (s:List Nat),bytesOf l=some s→(∀b∈s,b<256)∧l=s.map (fun n=>.int .u8 (.ofNat n)):=by
 intro l
 induction l with
 |nil=>
   intro s hs;have e:bytesOf []=some []:=rfl
   rw[e]at hs;cases hs;simp
 |cons v l ih=>
  intro s hs
  rw[ahy]at hs
  split at hs
  ·rename_i n
   cases hb:Nat.blt n 256 with
   |false=>rw[hb]at hs;cases hs
   |true=>
    rw[hb]at hs
    simp only[cond_true]at hs
    split at hs
    ·rename_i r hr
     cases hs
     obtain⟨h1,h2⟩:=ih r hr
     refine⟨fun b hb'=>?_,by simp[h2]⟩
     rcases List.mem_cons.1 hb' with rfl|hb'
     ·exact jf hb
     ·exact h1 b hb'
    ·cases hs
  ·cases hs
theorem ahz(σ:Sg)(w:World):∀(s acc:List Nat),
  (forIn (m:=Sem) (s.map (fun n=>ae σ (.int .u8 (.ofNat n)))) (bytesV acc) (fun c r=>do
   let .int .u8 n:=c|stuck "bytesToString: byte expected"
   pure (ForInStep.yield (r.push (UInt8.ofNat n.toNat))))).run P w=.ok (bytesV (acc++s)) w:=by
 intro s
 induction s with
 |nil=>intro acc;simp
 |cons n s ih=>
  intro acc
  have:=ih (acc++[n])
  simp only[List.map_cons,List.forIn_cons,ae,pure_bind]
  simp only[ae]at this
  have e:(bytesV acc).push (UInt8.ofNat (Int.ofNat n).toNat)=bytesV (acc++[n]):=by
   apply ByteArray.ext;simp[bytesV]
  rw[e,this]
  simp
theorem ahA(R:Rel E.G B W0 σ V h w){x:MV}{c:List MV}{s:List Nat}(hx:wf σ V x)(hc:mZ 1 h x=some c)(hs:bytesOf c=some s) :
  (∀b∈s,b<256)∧(Conv.bytesToString (ae σ x)).run P w=.ok (.string (bytesV s)) w:=by
 obtain⟨h1,h2⟩:=U6 c s hs
 refine⟨h1,?_⟩
 have key:∀{id off len:Nat},V id→jQ h id off (Nat.mul len 1)=some c→∀cap,
   (Conv.bytesToString (.slice (some ⟨(σ id).blk,(σ id).off+off,none⟩) len cap)).run P w=.ok (.string (bytesV s)) w:=by
  intro id off len hv hr cap
  obtain⟨-,-,hlen,hcell⟩:=vk R hv hr
  have hl:=CQ (P:=P) hcell
  unfold Conv.bytesToString
  rw[show len=c.length by rw[hlen];simp]
  simp only[]
  rw[Sem.bind_ok hl,←Array.forIn_toList]
  have e:aF σ c=s.map (fun n=>ae σ (.int .u8 (.ofNat n))):=by rw[dS,h2];simp
  have:=ahz (P:=P) σ w s []
  simp only[List.nil_append]at this
  simp only[e]
  exact(Sem.bind_ok this).trans rfl
 have nil:c=[]→(Conv.bytesToString (.slice none 0 0)).run P w=.ok (.string (bytesV s)) w:=by
  rintro rfl
  have e:bytesOf []=some []:=rfl
  rw[e]at hs;cases hs
  rfl
 cases x<;>simp only[mZ]at hc<;>first|(cases hc;done)|skip
 ·exact nil (Option.some.inj hc).symm
 ·rename_i id off len cap;simp only[wf]at hx;exact key hx.1 hc _
 ·rename_i id off l len;simp only[wf]at hx;exact key hx.1 hc _
 ·rename_i id a b l
  cases hc
  have e:bytesOf []=some []:=rfl
  rw[e]at hs;cases hs
  rfl
theorem ahB{n:Nat}{x:MV}{c:List MV}(hc:mZ n h x=some c):∃a m cp,ae σ x=.slice a m cp:=by
 cases x<;>simp only[mZ]at hc<;>first|(cases hc;done)|exact⟨_,_,_,rfl⟩
omit O in
theorem zJ{x:MV}{r:MR}(ho:Fh E h x=some r):∃id off len cap cs t es o,x=.sl id off len cap∧h.get id=some (.cells cs t es o)∧E.G.ro≤id∧r=.upd x (h.set id (.cells cs t es o)):=by
 unfold Fh at ho
 split at ho
 ·rename_i id off len cap
  split at ho
  ·rename_i cs t es o hg
   cases hr:Nat.ble E.G.ro id with
   |false=>rw[hr]at ho;cases ho
   |true=>
    rw[hr]at ho
    cases ho
    exact⟨id,off,len,cap,cs,t,es,o,rfl,hg,Nat.le_of_ble_eq_true hr,rfl⟩
  ·cases ho
 ·cases ho
theorem ahC(hE:bT E P)(R:Rel E.G B W0 σ V h w)(hev:fB σ V ev ρ){s d:TypeId}{x:Operand}{v:MV}(ho:xm E ev s d x h=some (.val v)) :
  wf σ V v∧(convert s d (ρ x)).run P w=.ok (ae σ v) w:=by
 unfold xm at ho
 split at ho
 ·rename_i xv hx
  obtain⟨g1,g2⟩:=hev x _ hx
  rw[g2]
  split at ho
  ·rename_i u hu
   cases ho
   obtain⟨k1,k2⟩:=hE.co s d xv _ hu σ V g1
   exact⟨k1,k2 w⟩
  rename_i hu
  clear hu
  unfold KR at ho
  split at ho
  ·rename_i S D hS hD
   have uS:=(hE.ty s S hS).2
   have uD:=(hE.ty d D hD).2
   unfold convert
   rw[Sem.bind_ok (dD uS w),Sem.bind_ok (dD uD w)]
   split at ho
   ·rename_i k k' n hd
    split at ho
    ·rename_i k2 hs
     cases ho
     refine⟨trivial,?_⟩
     simp only[hd,hs,ae]
     rfl
    ·cases ho
   ·rename_i b hd
    split at ho
    ·rename_i hs
     cases ho
     refine⟨g1,?_⟩
     simp only[hd,hs,ae]
     rfl
    ·cases ho
   ·split at ho
    ·rename_i T hS' hT
     cases hb:isByte T with
     |false=>rw[hb]at ho;cases ho
     |true=>rw[hb]at ho;cases ho
    ·cases ho
   ·rename_i hni hns hd
    split at ho
    ·rename_i e hs
     split at ho
     ·rename_i T hT
      cases hb:isByte T with
      |false=>rw[hb]at ho;cases ho
      |true=>
       rw[hb]at ho
       simp only[cond_true]at ho
       split at ho
       ·rename_i c hc
        split at ho
        ·rename_i b hbo
         cases ho
         obtain⟨h1,h2⟩:=ahA (P:=P) R g1 hc hbo
         refine⟨by simp only[wf];exact h1,?_⟩
         have ue:=(hE.ty e T hT).2
         rw[LX hb]at ue
         simp only[hns,hs]
         obtain⟨a,n,cp,hx'⟩:=ahB (σ:=σ) hc
         rw[hx']at h2 ⊢
         simp only[]
         rw[Sem.bind_ok (dD ue w)]
         exact h2
        ·cases ho
       ·cases ho
     ·cases ho
    ·cases ho
   ·split at ho
    ·rename_i T hs hT
     cases hb:and (Nat.beq s d) (isByte T)with
     |false=>rw[hb]at ho;cases ho
     |true=>
      rw[hb]at ho
      obtain⟨id,off,len,cap,cs,t,es,o,-,-,-,e⟩:=zJ ho
      cases e
    ·cases ho
   ·cases ho
  ·cases ho
 ·cases ho
omit O in
theorem LY(K:TypeDesc)(k:MV)(e:ME)(l:List ME)(i:Nat):oQ K k (e::l) i=(match mg K k e.key with
  |some true=>some (some (i,e))
  |some false=>oQ K k l (Nat.succ i)
  |none=>none):=rfl
theorem U7{K:TypeDesc}{x y:MV}{b:Bool}(hK:dM K=true)(hx:wf σ V x)(hy:wf σ V y)(he:mg K x y=some b):Instr.sameNow K (ae σ x) (ae σ y)=some b:=by
 unfold mg at he
 cases K<;>simp only[dM,Bool.false_eq_true]at hK<;>simp only at he
 case bool=>
  split at he
  ·cases he;rfl
  ·cases he
 case int k0=>
  split at he
  ·rename_i k a k' b'
   by_cases hk:k=k'
   ·subst hk
    simp only[decide_true,cond_true,Option.some.injEq]at he
    subst he
    simp only[ae,Instr.sameNow,if_true]
    rfl
   ·simp[hk]at he
  ·cases he
 case string=>
  split at he
  ·rename_i a b'
   simp only[Option.some.injEq]at he
   subst he
   simp only[wf]at hx hy
   simp only[ae,Instr.sameNow]
   congr 1
   rw[FY,LU,vw,vw,Bool.eq_iff_iff]
   simp only[decide_eq_true_eq]
   exact LQ hx hy
  ·cases he
theorem Gh{K:TypeDesc}{k:MV}(hK:dM K=true)(hk:wf σ V k):∀(l:List ME) (i:Nat) (r:Option (Nat×ME)),(∀e∈l,zI σ V e)→oQ K k l i=some r→
  Instr.findNow K (ae σ k) (l.map (eG σ)) i=some (r.map fun p=>(p.1,ae σ p.2.val))∧∀j e,r=some (j,e)→i≤j∧l[j-i]?=some e:=by
 intro l
 induction l with
 |nil=>
   intro i r _ h;have e:oQ K k [] i=some none:=rfl
   rw[e]at h;cases h;exact⟨rfl,fun _ _ h=>by cases h⟩
 |cons e l ih=>
  intro i r hl h
  rw[LY]at h
  have he:=hl e (by simp)
  split at h
  ·rename_i hq
   cases h
   refine⟨?_,fun j e' h=>by cases h;simp⟩
   simp only[List.map_cons,Instr.findNow,eG,U7 hK hk he.1 hq,Option.map_some]
  ·rename_i hq
   obtain⟨h1,h2⟩:=ih (i+1) r (fun x hx=>hl x (by simp[hx])) h
   refine⟨?_,fun j e' hj=>?_⟩
   ·simp only[List.map_cons,Instr.findNow,eG,U7 hK hk he.1 hq]
    exact h1
   ·obtain⟨h3,h4⟩:=h2 j e' hj
    refine⟨by omega,?_⟩
    rw[show j-i=(j-(i+1))+1 by omega]
    simpa using h4
  ·cases h
omit O in
theorem zK{kt:TypeId}{K:TypeDesc}{v:Value}(hu:P.underlying kt=some K)(hK:dM K=true)(em:Bool)(w:World):(Instr.checkKey em 10000 kt v).run P w=.ok () w:=by
 unfold Instr.checkKey
 rw[Sem.bind_ok (dD hu w)]
 cases K<;>simp only[dM,Bool.false_eq_true]at hK<;>rfl
theorem Gi(hE:bT E P){t:TypeId}{K:TypeDesc}{el:TypeId}(hk:yU E t=some (K,el)):∃kt,P.underlying t=some (.map kt el)∧P.underlying kt=some K∧dM K=true:=by
 unfold yU at hk
 split at hk
 ·rename_i T hT
  split at hk
  ·rename_i kt el' hd
   split at hk
   ·rename_i KT hKT
    cases hc:dM KT.und with
    |false=>rw[hc]at hk;cases hk
    |true=>
     rw[hc]at hk
     simp only[cond_true,Option.some.injEq,Prod.mk.injEq]at hk
     obtain⟨rfl,rfl⟩:=hk
     exact⟨kt,by rw[←hd];exact(hE.ty t T hT).2,(hE.ty kt KT hKT).2,hc⟩
   ·cases hk
  ·cases hk
 ·cases hk
theorem zL{kt:TypeId}{K:TypeDesc}{k:MV}{l:List ME}{r:Option (Nat×ME)}(hu:P.underlying kt=some K)(hK:dM K=true)(hk:wf σ V k)(hl:∀e∈l,zI σ V e)
  (hf:oQ K k l 0=some r) (w:World):(Instr.findKey kt (ae σ k) (l.map (eG σ))).run P w=.ok (r.map fun p=>(p.1,ae σ p.2.val)) w:=by
 unfold Instr.findKey
 rw[Sem.bind_ok (dD hu w),(Gh hK hk l 0 r hl hf).1]
 rfl
theorem U8(hE:bT E P){t:TypeId}{T:MT}{z:MV}(hT:E.ty.get t=some T)(hz:zeroV T=some z):(∀w,(zeroValue t).run P w=.ok (ae σ z) w)∧wf σ V z∧ones z.cells=true∧z.cells.length=T.info.size:=by
 unfold zeroV at hz
 split at hz
 ·rename_i u hu
  split at hz
  ·rename_i m hm
   cases hc:and (ones m.cells) (Nat.beq (dC m.cells 0) T.info.size)with
   |false=>rw[hc]at hz;cases hz
   |true=>
    rw[hc]at hz
    simp only[cond_true,Option.some.injEq]at hz
    subst hz
    obtain⟨h1,h2⟩:=CO σ V u m hm
    obtain⟨c1,c2⟩:=dL hc
    have c2:=Nat.eq_of_beq_eq_true c2
    rw[jl]at c2
    exact⟨fun w=>by rw[h1];exact ag0 (hE.ty t T hT).1 hu w,h2,c1,c2⟩
  ·cases hz
 ·cases hz
theorem U9(R:Rel E.G B W0 σ V h w){m:MV}{es:List ME}{c:Nat}(hm:wf σ V m)(ho:mapOf h m=some (es,c)) :
  (∀e∈es,zI σ V e)∧((m=.bV∧es=[])∨∃id,m=.mp id∧V id∧h.get id=some (.map es c)∧w.heap[(σ id).blk]?=some (.map ⟨es.map (eG σ)⟩ c)):=by
 unfold mapOf at ho
 split at ho
 ·cases ho;exact⟨by simp,.inl ⟨rfl,rfl⟩⟩
 ·rename_i id
  split at ho
  ·rename_i es' c' hg
   cases ho
   simp only[wf]at hm
   obtain⟨h1,h2⟩:=R.blk id _ hm hg
   exact⟨h2,.inr ⟨id,rfl,hm,hg,h1⟩⟩
  ·cases ho
 ·cases ho
theorem Va{ok b:Bool}{v:MV}(hv:wf σ V v):wf σ V (found ok v b)∧ae σ (found ok v b)=(if ok then .tuple #[ae σ v,.bool b]else ae σ v):=by
 unfold found
 cases ok with
 |true=>exact⟨by simp only[cond_true,wf,wfs];exact⟨hv,trivial,trivial⟩,rfl⟩
 |false=>exact⟨hv,rfl⟩
omit O in
theorem sW{r:Nat}{es:Array MapEntry}{c:Nat}(hb:w.heap[r]?=some (.map es c)):(getObj r).run P w=.ok (.map es c) w:=by
 simp[getObj,Sem.run,hb]
theorem ahF(hE:bT E P)(R:Rel E.G B W0 σ V h w)(hev:fB σ V ev ρ){t:TypeId}{m k:Operand}{ok:Bool}{v:MV}(ho:zx E ev t m k ok h=some (.val v)) :
  wf σ V v∧(Instr.lookup t (ρ m) (ρ k) ok).run P w=.ok (ae σ v) w:=by
 unfold zx at ho
 split at ho
 ·rename_i mv kv hm hk
  obtain⟨m1,m2⟩:=hev m _ hm
  obtain⟨k1,k2⟩:=hev k _ hk
  rw[m2,k2]
  unfold KW at ho
  split at ho
  ·rename_i K el es c hkd hmo
   obtain⟨kt,u1,u2,hK⟩:=Gi hE hkd
   obtain⟨hes,hmm⟩:=U9 R m1 hmo
   unfold Instr.lookup
   rw[Sem.bind_ok (dD u1 w)]
   simp only[]
   split at ho
   ·rename_i i e hf
    cases ho
    have hfk:=zL (P:=P) u2 hK k1 hes hf w
    obtain⟨-,h4⟩:=Gh hK k1 es 0 _ hes hf
    obtain⟨-,h5⟩:=h4 _ _ rfl
    obtain⟨w1,w2⟩:=Va (σ:=σ) (V:=V) (ok:=ok) (b:=true) (hes e (List.mem_of_getElem? h5)).2
    refine⟨w1,?_⟩
    rcases hmm with⟨rfl,rfl⟩|⟨id,rfl,hv,hg,hw⟩
    ·simp at h5
    ·simp only[ae]
     rw[Sem.bind_ok (sW hw)]
     simp only[pure_bind]
     refine(Sem.bind_ok (zK u2 hK _ w)).trans ?_
     refine(Sem.bind_ok hfk).trans ?_
     rw[w2];rfl
   ·rename_i hf
    split at ho
    ·rename_i Te hTe
     split at ho
     ·rename_i z hz
      cases ho
      have hfk:=zL (P:=P) u2 hK k1 hes hf w
      obtain⟨z1,z2,-,-⟩:=U8 (σ:=σ) (V:=V) hE hTe hz
      obtain⟨w1,w2⟩:=Va (σ:=σ) (V:=V) (ok:=ok) (b:=false) z2
      refine⟨w1,?_⟩
      rcases hmm with⟨rfl,rfl⟩|⟨id,rfl,hv,hg,hw⟩
      simp only[ae,pure_bind]
      rotate_left
      simp only[ae]
      rw[Sem.bind_ok (sW hw)]
      simp only[pure_bind]
      rotate_left
      all_goals
       refine(Sem.bind_ok (zK u2 hK _ w)).trans ?_
       refine(Sem.bind_ok hfk).trans ?_
       simp only[Option.map_none]
       rw[Sem.bind_ok (z1 w),w2];rfl
     ·cases ho
    ·cases ho
   ·cases ho
  ·cases ho
 ·cases ho
end ops
end Go.aI
namespace Go.aI
variable [O:dw]
open Go.RowKit
omit O in
theorem ahG{α:Type}(off:Nat):∀(vs:List α) (k:Nat) (cs:Array α),off+k+vs.length≤cs.size→
  (vs.zipIdx k).foldl (fun cs p=>cs.setIfInBounds (off+p.2) p.1) cs=⟨jD (off+k) vs cs.toList⟩:=by
 intro vs
 induction vs with
 |nil=>
  intro k cs h
  simp only[List.zipIdx_nil,List.foldl_nil]
  apply Array.toList_inj.1
  apply List.ext_getElem?
  intro i
  rw[(mr (off+k) [] cs.toList (by simpa using h)).2 i,if_neg (by simp)]
 |cons v vs ih=>
  intro k cs h
  simp only[List.length_cons]at h
  simp only[List.zipIdx_cons,List.foldl_cons]
  rw[ih (k+1) _ (by simp;omega)]
  congr 1
  apply List.ext_getElem?
  intro i
  have h1:=mr (off+(k+1)) vs (cs.setIfInBounds (off+k) v).toList (by simp;omega)
  have h2:=mr (off+k) (v::vs) cs.toList (by simp;omega)
  rw[h1.2,h2.2]
  simp only[List.length_cons,Array.toList_setIfInBounds,List.getElem?_set]
  by_cases e:i=off+k
  ·subst e
   rw[if_neg (by omega),if_pos rfl,if_pos (by simp;omega),if_pos (by omega)]
   simp
  ·by_cases e2:off+(k+1)≤i∧i<off+(k+1)+vs.length
   ·rw[if_pos e2,if_pos (by omega),show i-(off+k)=(i-(off+(k+1)))+1 by omega]
    simp
   ·rw[if_neg e2,if_neg (by omega),if_neg (by omega)]
omit O in
theorem ahH{α:Type}[Inhabited α](z:List α)(n:Nat):((Array.range (n*z.length)).map fun i=>(⟨z⟩:Array α)[i % (⟨z⟩:Array α).size]!)=⟨(List.replicate n z).flatten⟩:=by
 apply Array.toList_inj.1
 apply List.ext_getElem?
 intro i
 have hsz:(List.replicate n z).flatten.length=n*z.length:=by simp
 simp only[Array.toList_map,Array.toList_range,List.getElem?_map]
 by_cases hi:i<n*z.length
 ·rw[List.getElem?_range hi]
  simp only[Option.map_some]
  have hz:0<z.length:=by
   rcases Nat.eq_zero_or_pos z.length with h|h
   ·rw[h]at hi;simp at hi
   ·exact h
  have hm:i % z.length<z.length:=Nat.mod_lt _ hz
  have key:∀(n i:Nat),i<n*z.length→(List.replicate n z).flatten[i]?=z[i % z.length]?:=by
   intro n
   induction n with
   |zero=>intro i h;simp at h
   |succ n ih=>
    intro i h
    simp only[List.replicate_succ,List.flatten_cons]
    by_cases hlt:i<z.length
    ·rw[List.getElem?_append_left hlt,Nat.mod_eq_of_lt hlt]
    ·rw[List.getElem?_append_right (by omega),ih _ (by rw[Nat.succ_mul]at h;omega)]
     congr 1
     rw[Nat.mod_eq_sub_mod (show i≥z.length by omega)]
  rw[key n i hi]
  simp only[List.size_toArray]
  rw[getElem!_pos (⟨z⟩:Array α) (i % z.length) hm]
  simp[List.getElem?_eq_getElem hm]
 ·rw[List.getElem?_eq_none (by simpa using hi),List.getElem?_eq_none (by rw[hsz];omega)]
  rfl
section ops
variable {E:Env} {P:Program} {B:Nat→Prop} {W0:World} {σ:Sg} {V:Nat→Prop} {h:MH} {w:World} {ev:Ev} {ρ:Operand→Value}
theorem xG(hE:bT E P){t:TypeId}{T:MT}{z:List MV}(hT:E.ty.get t=some T)(hz:qE T=some z) :
  ∃m,(∀w,(zeroValue t).run P w=.ok (ae σ m) w)∧(ae σ m).cells=⟨aF σ z⟩∧wfs σ V z∧ones z=true∧z.length=T.info.size:=by
 unfold qE at hz
 split at hz
 ·rename_i m hm
  cases hz
  obtain⟨h1,h2,h3,h4⟩:=U8 (σ:=σ) (V:=V) hE hT hm
  exact⟨m,h1,CJ σ m,FU h2,h3,h4⟩
 ·cases hz
omit O in
theorem LZ(place:Nat→Option (Nat×Nat))(p:Nat×Operand)(ps:List (Nat×Operand))(cells:List MV):mf place ev (p::ps) cells =
  (match place p.1,ev p.2 with
  |some (off,size),some v=>
   cond (and (ones v.cells) (and (Nat.beq (dC v.cells 0) size) (Nat.ble (Nat.add off size) (dC cells 0)))) (mf place ev ps (jD off v.cells cells)) none
  |_,_=>none):=rfl
theorem L6{off:Nat}{vs cs:List MV}(hl:off+vs.length≤cs.length)(h1:wfs σ V vs)(h2:ones vs=true)(h3:wfs σ V cs)(h4:ones cs=true) :
  wfs σ V (jD off vs cs)∧ones (jD off vs cs)=true∧aF σ (jD off vs cs)=jD off (aF σ vs) (aF σ cs):=by
 have hg:=mr off vs cs hl
 have hmem:∀v∈jD off vs cs,v∈vs∨v∈cs:=by
  intro v hv
  obtain⟨i,hi⟩:=List.mem_iff_getElem?.1 hv
  rw[hg.2]at hi
  split at hi
  ·exact .inl (List.mem_of_getElem? hi)
  ·exact .inr (List.mem_of_getElem? hi)
 refine⟨(fP _).2 fun v hv=>?_,(iq _).2 fun v hv=>?_,?_⟩
 ·rcases hmem v hv with hv|hv
  ·exact(fP _).1 h1 v hv
  ·exact(fP _).1 h3 v hv
 ·rcases hmem v hv with hv|hv
  ·exact(iq _).1 h2 v hv
  ·exact(iq _).1 h4 v hv
 ·apply List.ext_getElem?
  intro i
  rw[(mr off (aF σ vs) (aF σ cs) (by rw[dS,dS];simpa using hl)).2]
  rw[dS,dS,dS,List.getElem?_map,hg.2]
  simp only[List.length_map]
  split<;>simp
theorem L8(hev:fB σ V ev ρ)(place:Nat→Option (Nat×Nat)):∀(ps:List (Nat×Operand)) (cells r:List MV),wfs σ V cells→ones cells=true→mf place ev ps cells=some r→
  wfs σ V r∧ones r=true∧Instr.fill place ⟨aF σ cells⟩ (ps.map fun p=>(p.1,ρ p.2))=some ⟨aF σ r⟩:=by
 intro ps
 induction ps with
 |nil=>
   intro cells r h1 h2 h;have e:mf place ev [] cells=some cells:=rfl
   rw[e]at h;cases h;exact⟨h1,h2,rfl⟩
 |cons p ps ih=>
  intro cells r h1 h2 h
  rw[LZ]at h
  split at h
  ·rename_i off size v hp hv
   cases hc:(and (ones v.cells) (and (Nat.beq (dC v.cells 0) size) (Nat.ble (Nat.add off size) (dC cells 0))))with
   |false=>rw[hc]at h;cases h
   |true=>
    rw[hc]at h
    simp only[cond_true]at h
    obtain⟨c1,c2⟩:=dL hc
    obtain⟨c2,c3⟩:=dL c2
    have c2:=Nat.eq_of_beq_eq_true c2
    have c3:=Nat.le_of_ble_eq_true c3
    rw[jl]at c2 c3
    simp only[Nat.add_zero,Nat.add_eq]at c2 c3
    obtain⟨v1,v2⟩:=hev p.2 v hv
    obtain⟨g1,g2,g3⟩:=L6 (σ:=σ) (V:=V) (off:=off) (vs:=v.cells) (cs:=cells) (by omega) (FU v1) c1 h1 h2
    obtain⟨r1,r2,r3⟩:=ih _ r g1 g2 h
    refine⟨r1,r2,?_⟩
    simp only[List.map_cons,Instr.fill,hp,v2,CJ]
    have l1:(aF σ v.cells).length=size:=by rw[dS];simp[c2]
    have l2:(aF σ cells).length=cells.length:=by rw[dS];simp
    have hif:¬((⟨aF σ v.cells⟩:Array Value).size≠size∨off+(⟨aF σ v.cells⟩:Array Value).size > (⟨aF σ cells⟩:Array Value).size):=by
     simp only[List.size_toArray,l1,l2];omega
    have hz:(⟨aF σ v.cells⟩:Array Value).zipIdx.foldl (fun(cs:Array Value) (p:Value×Nat)=>cs.setIfInBounds (off+p.2) p.1) (⟨aF σ cells⟩:Array Value)=(⟨jD off (aF σ v.cells) (aF σ cells)⟩:Array Value):=by
     have:=ahG off (aF σ v.cells) 0 (⟨aF σ cells⟩:Array Value) (by simp only[List.size_toArray,l1,l2];omega)
     simp only[Nat.add_zero]at this
     rw[←this,←Array.foldl_toList]
     simp
    rw[←g3]at hz
    rw[if_neg (by simpa using hif)]
    exact(congrArg (fun x=>Instr.fill place x _) hz).trans r3
  ·cases h
theorem ahI(hE:bT E P):∀(fs:List Field) (ps:List (Nat×Nat)),Cf E fs=some ps→∀w,(fs.mapM (m:=Sem) fun f=>do pure (f.offset,←sizeOf f.type)).run P w=.ok ps w:=by
 intro fs
 induction fs with
 |nil=>
   intro ps h w;have e:Cf E []=some []:=rfl
   rw[e]at h;cases h;rfl
 |cons f fs ih=>
  intro ps h w
  have e:Cf E (f::fs)=(match oq E f.type,Cf E fs with|some n,some l=>some ((f.offset,n)::l)|_,_=>none):=rfl
  rw[e]at h
  split at h
  ·rename_i n l hn hl
   cases h
   rw[List.mapM_cons,bind_assoc,Sem.bind_ok (pW hE hn w)]
   simp only[pure_bind]
   rw[Sem.bind_ok (ih l hl w)]
   rfl
  ·cases h
omit O in
theorem Vb{o:Option (List MV)}{v:MV}(ho:yY o=some (.val v)):∃c,o=some c∧v=.agg c:=by
 unfold yY at ho
 split at ho
 ·cases ho;exact⟨_,rfl,rfl⟩
 ·cases ho
theorem ahJ(hE:bT E P)(hev:fB σ V ev ρ){t:TypeId}{parts:Array (Nat×Operand)}{v:MV}(ho:yZ E ev t parts=some (.val v))(w:World) :
  wf σ V v∧(Instr.build t (parts.map fun(i,x)=>(i,ρ x))).run P w=.ok (ae σ v) w:=by
 unfold yZ at ho
 split at ho
 ·cases ho
 ·rename_i T hT
  have hu:=(hE.ty t T hT).2
  have hpm:(parts.map fun(i,x)=>(i,ρ x)).toList=parts.toList.map fun p=>(p.1,ρ p.2):=by simp
  unfold Instr.build
  split at ho
  ·rename_i z fs hz hd
   rw[hd]at hu
   obtain⟨m,m1,m2,m3,m4,-⟩:=xG (σ:=σ) (V:=V) hE hT hz
   split at ho
   ·rename_i ps hps
    obtain⟨c,hc,rfl⟩:=Vb ho
    obtain⟨r1,r2,r3⟩:=L8 hev _ _ _ _ m3 m4 hc
    refine⟨by simp only[wf];exact⟨r1,r2⟩,?_⟩
    rw[Sem.bind_ok (m1 w),Sem.bind_ok (dD hu w)]
    simp only[m2,hpm]
    have hmm:(fs.mapM (m:=Sem) fun f=>do pure (f.offset,←sizeOf f.type)).run P w=.ok ⟨ps⟩ w:=by
     rw[Array.mapM_eq_mapM_toList,←bind_pure_comp]
     exact(Sem.bind_ok (ahI hE _ _ hps w)).trans rfl
    rw[Sem.bind_ok hmm]
    have hpl:(fun x=>(⟨ps⟩:Array (Nat×Nat))[x]?)=iU ps:=by funext i;rw[uZ];simp
    rw[hpl,r3]
    rfl
   ·cases ho
  ·rename_i z n e hz hd
   rw[hd]at hu
   obtain⟨m,m1,m2,m3,m4,-⟩:=xG (σ:=σ) (V:=V) hE hT hz
   split at ho
   ·rename_i es hes
    obtain⟨c,hc,rfl⟩:=Vb ho
    obtain⟨r1,r2,r3⟩:=L8 hev _ _ _ _ m3 m4 hc
    refine⟨by simp only[wf];exact⟨r1,r2⟩,?_⟩
    rw[Sem.bind_ok (m1 w),Sem.bind_ok (dD hu w)]
    simp only[m2,hpm]
    rw[Sem.bind_ok (pW hE hes w)]
    have hpl:(fun i=>some (i*es,es))=FI es:=by funext i;rfl
    rw[hpl,r3]
    rfl
   ·cases ho
  ·cases ho
end ops
end Go.aI
