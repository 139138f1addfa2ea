/- A part of the proof. -/
import Derived.Test.YtaghcadlgbnbdaaGreatDoorA12
import Derived.OrdersIn
import Derived.Test.YtaghcadlgbnbdaaGreatDoorProg
import Derived.Lib.Bytealg
namespace Go.aY
variable [O:dO]
open Go.RowKit
section
variable {E:Env} {P:Program} {B:Nat→Prop} {W0:World}
def oneOf:List MV→MV
 | [v]=>v
 |vs=>.cu vs
omit O in
theorem aoG(v:MV)(l:List MV)(t:Tr MV)(i:Nat):zV (v::l) t i=zV l (t.put i v) (i+1):=rfl
omit O in
theorem aoH:∀(l:List MV) (t:Tr MV) (i k:Nat),(zV l t i).get k=if i≤k∧k<i+l.length then l[k-i]? else t.get k:=by
 intro l
 induction l with
 |nil=>intro t i k;rw[if_neg (by simp)];rfl
 |cons v l ih=>
  intro t i k
  rw[aoG,ih,Tr.get_put]
  simp only[List.length_cons]
  by_cases h1:i+1≤k∧k<i+1+l.length
  ·rw[if_pos h1,if_pos (by omega),show k-i=(k-(i+1))+1 by omega];simp
  ·rw[if_neg h1]
   by_cases h2:k=i
   ·subst h2;rw[if_pos rfl,if_pos (by omega)];simp
   ·rw[if_neg h2,if_neg (by omega)]
theorem aoI{σ:Sg}{V:Nat→Prop}{args:List MV}(hw:wfs σ V args)(nt:Nat) :
  pJ σ V (zV args .nil 0) (Nat.max nt (eH args 0)) ((⟨aH σ args⟩:Array Value)++Array.replicate (nt-(⟨aH σ args⟩:Array Value).size) undef):=by
 have hl:(aH σ args).length=args.length:=by rw[dZ];simp
 refine⟨?_,fun k v hk=>?_⟩
 ·simp only[Array.size_append,List.size_toArray,hl,Array.size_replicate,lH]
  show _=Nat.max nt (args.length+0)
  have:Nat.max nt (args.length+0)=max nt args.length:=rfl
  rw[this];omega
 ·rw[aoH]at hk
  split at hk
  ·rename_i hc
   simp only[Nat.sub_zero]at hk
   refine⟨(je _).1 hw v (List.mem_of_getElem? hk),?_⟩
   rw[Array.getElem?_append_left (by simp[hl];omega)]
   rw[dZ];simp[hk]
  ·rw[Tr.get_nil]at hk;cases hk
omit O in
theorem aoJ(d:Nat)(l:List Nat)(h:MH):CZ E (d::l) h=(match h.get d with|some .sG=>cond (Nat.ble E.G.ro d) (CZ E l (h.set d .dead)) none|_=>none):=rfl
omit O in
theorem aoK(m:MA)(h:MH)(r:ResultVar)(l:List ResultVar):uQ E m h (r::l) =
  (match r with
  | .tmp t=>match m.tmps.get t,uQ E m h l with|some v,some vs=>some (v::vs)|_,_=>none
  | .cell p t=>match dG E t,m.tmps.get p,uQ E m h l with
   |some T,some (.ptr id off),some vs=>match Fv T h id off with|some v=>some (v::vs)|none=>none
   |_,_,_=>none):=rfl
theorem aoL(hE:bM E P){σ:Sg}{V:Nat→Prop}{h:MH}{w:World}{m:MA}{tmps:Array Value}(R:Rel E.G B W0 σ V h w)(ha:pJ σ V m.tmps m.nt tmps):∀(l:List ResultVar) (vs:List MV),uQ E m h l=some vs→
  wfs σ V vs∧(l.mapM (m:=Sem) fun
   | .tmp t=>pure (tmps.getD t undef)
   | .cell a t=>do loadVar t (←asAddr (tmps.getD a undef))).run P w=.ok (aH σ vs) w:=by
 intro l
 induction l with
 |nil=>
   intro vs hv;have e:uQ E m h []=some []:=rfl
   rw[e]at hv;cases hv;exact⟨trivial,rfl⟩
 |cons r l ih=>
  intro vs hv
  rw[aoK]at hv
  rw[List.mapM_cons]
  cases r with
  |tmp t=>
   dsimp only at hv
   split at hv
   ·rename_i v us hv1 hv2
    cases hv
    obtain⟨h1,h2⟩:=ih us hv2
    obtain⟨g1,g2⟩:=ha.cell t v hv1
    refine⟨by simp only[wfs];exact⟨g1,h1⟩,?_⟩
    simp only[pure_bind]
    rw[Sem.bind_ok h2]
    simp only[Sem.run_pure,aH,Array.getD_eq_getD_getElem?,g2]
    rfl
   ·cases hv
  |cell p t=>
   dsimp only at hv
   split at hv
   ·rename_i T id off us hT hp hv2
    split at hv
    ·rename_i v hr
     cases hv
     obtain⟨h1,h2⟩:=ih us hv2
     obtain⟨g1,g2⟩:=ha.cell p _ hp
     simp only[wf]at g1
     obtain⟨k1,k2⟩:=ZQ hE R hT g1 hr
     refine⟨by simp only[wfs];exact⟨k1,h1⟩,?_⟩
     have hc:(do loadVar t (←asAddr (tmps.getD p undef)):Sem Value).run P w=.ok (af σ v) w:=by
      rw[Array.getD_eq_getD_getElem?,g2];exact k2
     refine(Sem.bind_ok hc).trans ?_
     rw[Sem.bind_ok h2]
     rfl
    ·cases hv
   ·cases hv
theorem aoM(hE:bM E P){σ:Sg}{V:Nat→Prop}{h:MH}{w:World}{m:MA}{tmps:Array Value}(R:Rel E.G B W0 σ V h w)(ha:pJ σ V m.tmps m.nt tmps){F:Func}{vs:List MV}(hr:uQ E m h F.results.toList=some vs) :
  ∃v:MV,oneOf vs=v∧wf σ V v∧(results F tmps).run P w=.ok (af σ v) w:=by
 obtain⟨h1,h2⟩:=aoL (P:=P) hE R ha _ _ hr
 unfold results
 have hm:(F.results.mapM (m:=Sem) fun
   | .tmp t=>pure (tmps.getD t undef)
   | .cell a t=>do loadVar t (←asAddr (tmps.getD a undef))).run P w=.ok ⟨aH σ vs⟩ w:=by
  rw[Array.mapM_eq_mapM_toList,←bind_pure_comp]
  exact(Sem.bind_ok h2).trans rfl
 refine⟨_,rfl,?_,?_⟩
 ·unfold oneOf
  split
  ·simp only[wfs]at h1;exact h1.1
  ·simp only[wf];exact h1
 ·refine(Sem.bind_ok hm).trans ?_
  cases vs with
  |nil=>simp[aH,oneOf,af]
  |cons v vs=>cases vs with
   |nil=>simp[aH,oneOf]
   |cons u vs=>simp[aH,oneOf,af]
omit O in
theorem aoN{w:World}{b:Nat}{ds:List Deferred}(hb:w.heap[b]?=some (.deferred (some ds))):(Instr.takeDeferred b).run P w=.ok ds (w.putObj b (.deferred none)):=by
 unfold Instr.takeDeferred
 simp[getObj,setObj,Sem.run,hb,World.putObj]
theorem aoO(hE:bM E P){F:Func}{tmps:Array Value}{m:MA}{K:Ending→World→Prop}:∀(ds:List Nat) (σ:Sg) (V:Nat→Prop) (h h':MH) (w:World),(∀d∈ds,V d)→Rel E.G B W0 σ V h w→pJ σ V m.tmps m.nt tmps→
  CZ E ds h=some h'→(∃vs,uQ E m h' F.results.toList=some vs)→
  (∀w' v,Rel E.G B W0 σ V h' w'→h'.nx=h.nx→(∃vs,uQ E m h' F.results.toList=some vs∧oneOf vs=v)→wf σ V v→K (.returned (af σ v)) w')→
  LeavesInM Fence.wide 0 P F tmps K (ds.map (yA σ)) .returning w:=by
 intro ds
 induction ds with
 |nil=>
  intro σ V h h' w _ R ht hd hr hK
  have e:CZ E [] h=some h:=rfl
  rw[e]at hd;cases hd
  obtain⟨vs,hvs⟩:=hr
  obtain⟨v,hv,hw,hrun⟩:=aoM (P:=P) hE R ht hvs
  show LeavesIn Fence.wide 0 P F tmps K [] .returning w
  exact⟨_,hrun,hK w v R rfl ⟨vs,hvs,hv⟩ hw⟩
 |cons d ds ih=>
  intro σ V h h' w hdv R ht hd hr hK
  rw[aoJ]at hd
  split at hd
  ·rename_i hg
   cases hG:Nat.ble E.G.ro d with
   |false=>rw[hG]at hd;cases hd
   |true=>
   rw[hG]at hd
   simp only[cond_true]at hd
   have hG:=Nat.le_of_ble_eq_true hG
   have hb:w.heap[(σ d).blk]?=some (.deferred (some [])):=R.blk d _ (hdv d (by simp)) hg
   have R1:Rel E.G B W0 σ V (h.set d .dead) (w.putObj (σ d).blk (.deferred none)):=
    R.write (hdv d (by simp)) hg rfl hG _ trivial
   refine⟨by simp,.inl ⟨(σ d).blk,_,rfl,aoN hb,?_⟩⟩
   exact ih σ V _ h' _ (fun x hx=>hdv x (by simp[hx])) R1 ht hd hr (fun w' v r1 r2 r3 r4=>hK w' v r1 r2 r3 r4)
  ·cases hd
omit O in
theorem aoP{F:Func}{m:MA}{h h':MH}{v:MV}(ho:FP E F m h=some (v,h')):CZ E m.defs h=some h'∧∃vs,uQ E m h' F.results.toList=some vs∧oneOf vs=v:=by
 unfold FP at ho
 split at ho
 ·cases ho
 ·rename_i h1 hd
  split at ho
  ·rename_i u hr
   cases ho
   exact⟨hd,_,hr,rfl⟩
  ·rename_i vs hn hr
   cases ho
   refine⟨hd,_,hr,?_⟩
   unfold oneOf
   split
   ·exact absurd rfl (hn _)
   ·rfl
  ·cases ho
def KQ(E:Env)(P:Program)(B:Nat→Prop)(W0:World):Prop:=
 ∀f args h v h',E.kQ f args h=some (v,h')→∀σ V w,Rel E.G B W0 σ V h w→wfs σ V args→Calls P f ⟨aH σ args⟩ w (Dn E.G B W0 σ V h h' v)
theorem aoQ(hE:bM E P)(hO:KQ E P B W0)(hW:∀k,B k→k<W0.heap.size){go:Task→MH→Option (MV×MH)}(hgo:pM E P B W0 go)(hd:Dt E P B W0 go){f:FuncId}{args:List MV}{h h':MH}{v:MV}(ho:Qs E go f args h=some (v,h')) :
  ∃F,E.fns.get f=some F∧F.body.isSome=true∧∀σ V w,Rel E.G B W0 σ V h w→wfs σ V args→Calls P f ⟨aH σ args⟩ w (Dn E.G B W0 σ V h h' v):=by
 unfold Qs at ho
 split at ho
 ·rename_i F hF
  split at ho
  ·rename_i body hb
   refine⟨F,hF,by rw[hb];rfl,fun σ V w R hw=>?_⟩
   cases Rh:E.kQ f args h with
   |some r=>
    rw[Rh]at ho
    cases ho
    exact hO f args h v h' Rh σ V w R hw
   |none=>
   rw[Rh]at ho
   simp only at ho
   refine callsIn_wide.1 (callsIn_of_wp_marks (F:=Fence.wide) (n:=0) (hE.fns f F hF).1 hb trivial ?_)
   cases hc:code E go none 1000 body ⟨zV args .nil 0,Nat.max F.ntmps (eH args 0),[]⟩ h with
   |none=>rw[hc]at ho;cases ho
   |some o=>
    rw[hc]at ho
    have ha:dw σ V ⟨zV args .nil 0,Nat.max F.ntmps (eH args 0),[]⟩ {tmps:=(⟨aH σ args⟩:Array Value)++Array.replicate (F.ntmps-(⟨aH σ args⟩:Array Value).size) undef,defers:=[]}:=
     ⟨aoI hw _,rfl,fun d hd=>by cases hd⟩
    have hwp:=Rf hE hW hgo hd none 1000 body _ h o hc σ V w _ none R ha (.inl ⟨rfl,rfl⟩)
    refine wpIn_mono hwp ?_
    rintro e a1 w1 ⟨rfl,σ1,V1,g1,g2,g3,g4,g5,g6⟩
    have key:FP E F o.a o.h=some (v,h')→LeavesInM Fence.wide 0 P F a1.tmps (Dn E.G B W0 σ V h h' v) a1.defers .returning w1:=by
     intro hret
     obtain⟨hdf,vs,hvs,hv⟩:=aoP hret
     rw[g6.df]
     refine aoO (P:=P) hE o.a.defs σ1 V1 o.h h' w1 g6.dv g5 g6.tm hdf ⟨vs,hvs⟩ ?_
     rintro w2 v2 r1 r2 ⟨vs2,h2,hv2⟩ r4
     rw[hvs]at h2
     cases h2
     rw[hv]at hv2
     subst hv2
     exact⟨σ1,V1,g1,g2,g3,by rw[r2];exact g4,r1,r4,rfl⟩
    obtain⟨oe,oa,oh⟩:=o
    cases oe with
    |normal=>exact key ho
    |ret=>exact key ho
    |exit id=>cases ho
    |goto l=>cases ho
  ·cases ho
 ·cases ho
theorem aoR{σ:Sg}{V:Nat→Prop}{nt:Nat}:∀(ps:List Nat) (t:Tr MV) (vs:List MV) (t':Tr MV) (a:Array Value),pJ σ V t nt a→wfs σ V vs→FO ps t vs=some t'→(∀p∈ps,p<nt)→
  ps.length=vs.length∧pJ σ V t' nt ((ps.zip (aH σ vs)).foldl (fun tmps p=>tmps.setIfInBounds p.1 p.2) a):=by
 intro ps
 induction ps with
 |nil=>
  intro t vs t' a ht hw ho _
  cases vs with
  |nil=>
   have e:FO [] t []=some t:=rfl
   rw[e]at ho;cases ho
   exact⟨rfl,ht⟩
  |cons v vs=>cases ho
 |cons p ps ih=>
  intro t vs t' a ht hw ho hp
  cases vs with
  |nil=>cases ho
  |cons v vs=>
   have e:FO (p::ps) t (v::vs)=FO ps (t.put p v) vs:=rfl
   rw[e]at ho
   simp only[wfs]at hw
   have hlt:=hp p (by simp)
   have ht1:pJ σ V (t.put p v) nt (a.setIfInBounds p (af σ v)):=by
    refine⟨by simpa using ht.size,fun k u hk=>?_⟩
    rw[Tr.get_put]at hk
    split at hk
    ·rename_i e
     cases hk
     refine⟨hw.1,?_⟩
     rw[e,Array.getElem?_setIfInBounds,if_pos rfl,if_pos (by rw[ht.size];exact hlt)]
    ·rename_i e
     obtain⟨h1,h2⟩:=ht.cell k u hk
     exact⟨h1,by rw[Array.getElem?_setIfInBounds_ne (Ne.symm e)];exact h2⟩
   obtain⟨h1,h2⟩:=ih _ vs t' _ ht1 hw.2 ho (fun q hq=>hp q (by simp[hq]))
   exact⟨by simp[h1],by simpa[aH]using h2⟩
end
end Go.aY
namespace Go.aY
variable [O:dO]
open Go.RowKit
section
variable {E:Env} {P:Program} {B:Nat→Prop} {W0:World}
theorem aoS{σ:Sg}{V:Nat→Prop}{h':MH}{w:World}{l:Nat}{v:MV}{o:MO}{a:Act}(hG:E.G.ro≤l)(hl:V l)(R:Rel E.G B W0 σ V o.h w)(ho:roundEnd l (some o)=some (v,h')){K:Ending→World→Prop}
  (hK:∀w',Rel E.G B W0 σ V h' w'→h'.nx=o.h.nx→wf σ V v→K (.returned (af σ v)) w'):roundPost P (σ l).blk K (ex o.e) a w:=by
 obtain⟨oe,oa,oh⟩:=o
 simp only[roundEnd]at ho
 split at ho
 ·rename_i L hg
  obtain⟨tm,fn,b1,b2,b3⟩:=R.blk l _ hl hg
  cases ho
  have fin:∀(st:LoopState) (j:Option Code),Rel E.G B W0 σ V (oh.set l (.loop {L with state:=st,pending:=j})) (w.putObj (σ l).blk (.loop (oL σ {L with state:=st,pending:=j} tm fn))):=
   fun st j=>R.write hl hg rfl hG _ ⟨tm,fn,World.putObj_heap_same (R.lt hl hg rfl),b2,b3⟩
  have run:∀(j:Option Code),(Instr.endRound (σ l).blk j).run P w=.ok (.bool j.isNone) (w.putObj (σ l).blk (.loop (oL σ {L with state:=if j.isNone then .ready else .done,pending:=j} tm fn))):=by
   intro j
   unfold Instr.endRound
   rw[Sem.bind_ok (Gi (P:=P) b1),Sem.bind_ok (run_setObj_loop (P:=P) _ b1)]
   rfl
  cases oe with
  |normal=>exact⟨_,_,run none,hK _ (fin _ _) rfl trivial⟩
  |ret=>exact⟨_,_,run (some .ret),hK _ (fin _ _) rfl trivial⟩
  |exit id=>exact⟨_,_,run (some (.exit id)),hK _ (fin _ _) rfl trivial⟩
  |goto t=>exact⟨_,_,run (some (.goto t)),hK _ (fin _ _) rfl trivial⟩
 ·cases ho
theorem aoT(hE:bM E P)(hW:∀k,B k→k<W0.heap.size){go:Task→MH→Option (MV×MH)}(hgo:pM E P B W0 go)(hd:Dt E P B W0 go){l:Nat}{args:List MV}{h h':MH}{v:MV}(ho:Qv E go l args h=some (v,h'))
  {σ:Sg} {V:Nat→Prop} {w:World} (R:Rel E.G B W0 σ V h w) (hl:V l) (hw:wfs σ V args) :
  ∃f tm assign body,(Instr.yield (σ l).blk ⟨aH σ args⟩).run P w=.ok (.round (σ l).blk f tm assign body) w∧RoundIn Fence.wide 0 P (σ l).blk f tm assign body w (Dn E.G B W0 σ V h h' v):=by
 unfold Qv at ho
 split at ho
 ·rename_i L hg
  obtain⟨tm,fn,b1,b2,b3⟩:=R.blk l _ hl hg
  cases hc:(and (Nat.ble E.G.ro l) (L.params.all fun p=>Nat.blt p L.nt))with
  |false=>rw[hc]at ho;cases ho
  |true=>
   rw[hc]at ho
   simp only[cond_true]at ho
   obtain⟨c1,c2⟩:=jX hc
   have hG:=Nat.le_of_ble_eq_true c1
   have hp:∀p∈L.params,p<L.nt:=fun p hp=>sS (List.all_eq_true.1 c2 p hp)
   split at ho
   ·rename_i t ht
    obtain⟨hlen,KP⟩:=aoR L.params L.tmps args t tm b2 hw ht hp
    refine⟨fn,(L.params.zip (aH σ args)).foldl (fun tmps p=>tmps.setIfInBounds p.1 p.2) tm,L.assign,L.body,?_,?_⟩
    ·unfold Instr.yield
     rw[Sem.bind_ok (Gi (P:=P) b1)]
     rw[if_neg (by simp[oL,hlen,dZ])]
     simp only[Sem.run_pure,oL]
     congr 2
     rw[←Array.foldl_toList]
     simp
    ·refine roundIn_of_wpIn (F:=Fence.wide) (l:=(σ l).blk) trivial ?_
     split at ho
     ·rename_i m1 h1 hcode
      have ha:dw σ V ⟨t,L.nt,[]⟩ {tmps:=(L.params.zip (aH σ args)).foldl (fun tmps p=>tmps.setIfInBounds p.1 p.2) tm,defers:=[]}:=⟨KP,rfl,fun d hd=>by cases hd⟩
      have hwp:=Rf hE hW hgo hd (some l) 1000 L.assign _ h _ hcode σ V w _ (some (σ l).blk) R ha (.inr ⟨l,rfl,hl,rfl⟩)
      refine wpIn_mono hwp ?_
      rintro e a1 w1 ⟨rfl,σ1,V1,g1,g2,g3,g4,g5,g6⟩
      simp only[ex,Exit.then]
      have hl1:=g2 l hl
      have hbl:(σ1 l).blk=(σ l).blk:=by rw[g1 l hl]
      cases hb:Qu E go l L.body m1 h1 with
      |none=>rw[hb]at ho;cases ho
      |some o=>
       rw[hb]at ho
       unfold Qu at hb
       split at hb
       ·rename_i L1 hg1
        obtain⟨Ri,Gj,k1,k2,k3⟩:=g5.blk l _ hl1 hg1
        split at hb
        ·rename_i hst
         have R2:Rel E.G B W0 σ1 V1 (h1.set l (.loop {L1 with state:=.busy})) (w1.putObj (σ1 l).blk (.loop (oL σ1 {L1 with state:=.busy} Ri Gj))):=
          g5.write hl1 hg1 rfl hG _ ⟨Ri,Gj,World.putObj_heap_same (g5.lt hl1 hg1 rfl),k2,k3⟩
         refine⟨w1.putObj (σ1 l).blk (.loop (oL σ1 {L1 with state:=.busy} Ri Gj)),?_,?_⟩
         ·unfold Instr.beginRound
          rw[←hbl]
          rw[Sem.bind_ok (Gi (P:=P) k1),Sem.bind_ok (run_setObj_loop (P:=P) _ k1)]
          simp only[oL,hst]
          rfl
         ·have aoU:=Rf hE hW hgo hd (some l) 1000 L.body m1 _ o hb σ1 V1 _ a1 (some (σ l).blk) R2 g6 (.inr ⟨l,rfl,hl1,by rw[hbl]⟩)
          refine wpIn_mono aoU ?_
          rintro e a2 w2 ⟨rfl,σ2,V2,j1,j2,j3,j4,j5,j6⟩
          have aoV:(σ2 l).blk=(σ l).blk:=by rw[j1 l hl1];exact hbl
          rw[←aoV]
          refine aoS hG (j2 l hl1) j5 ho ?_
          intro w3 r1 r2 r3
          refine After.trans g1 g2 g3 g4 (After.trans (h':=o.h) j1 j2 (fun id hid=>j3 id hid) j4 ?_)
          exact⟨σ2,V2,dI.refl _ _,fun _ hx=>hx,fun _ hx=>.inl hx,Nat.le_of_eq r2.symm,r1,r3,rfl⟩
        ·cases hb
       ·cases hb
     ·cases ho
   ·cases ho
 ·cases ho
omit O in
theorem aar(n:Nat)(t:Task)(h:MH):run E (n+1) t h=ZJ E (run E n) t h:=rfl
theorem aoW(hE:bM E P)(hO:KQ E P B W0)(hW:∀k,B k→k<W0.heap.size)(hdr:∀go,pM E P B W0 go→Dt E P B W0 go):∀n,pM E P B W0 (run E n):=by
 intro n
 induction n with
 |zero=>exact⟨fun f args h v h' ho=>(by cases ho),fun l args h v h' ho=>(by cases ho)⟩
 |succ n ih=>
  refine⟨fun f args h v h' ho=>?_,fun l args h v h' ho σ V w R hl hw=>?_⟩
  ·rw[aar]at ho
   exact aoQ hE hO hW ih (hdr _ ih) ho
  ·rw[aar]at ho
   exact aoT hE hW ih (hdr _ ih) ho R hl hw
end
end Go.aY
namespace Go.aY
variable [O:dO]
open Go.RowKit
section
variable {E:Env} {h:MH} {ev ev':Ev}
omit O in
theorem Rj:∀(l:List Operand),(∀x∈l,ev x=ev' x)→evs ev l=evs ev' l:=by
 intro l
 induction l with
 |nil=>intro _;rfl
 |cons x l ih=>intro hx;rw[QC,QC,hx x (by simp),ih (fun y hy=>hx y (by simp[hy]))]
omit O in
theorem aas(place:Nat→Option (Nat×Nat)):∀(ps:List (Nat×Operand)) (cells:List MV),(∀p∈ps,ev p.2=ev' p.2)→nH place ev ps cells=nH place ev' ps cells:=by
 intro ps
 induction ps with
 |nil=>intro cells _;rfl
 |cons p ps ih=>
  intro cells hx
  rw[QN,QN,hx p (by simp)]
  have:∀c,nH place ev ps c=nH place ev' ps c:=fun c=>ih c (fun q hq=>hx q (by simp[hq]))
  simp only[this]
omit O in
theorem Rk(o:Option Operand)(hx:∀x∈o.toList,ev x=ev' x):qE ev o=qE ev' o:=by
 cases o with
 |none=>rfl
 |some x=>unfold qE;dsimp only;rw[hx x (by simp)]
omit O in
theorem aat(o:Op)(hc:∀x∈o.operands,ev x=ev' x):eY E ev o h=eY E ev' o h:=by
 cases o<;>simp only[eY]
 case move x=>rw[hc x (by simp[Op.operands])]
 case assign x=>rw[hc x (by simp[Op.operands])]
 case pick c a b=>unfold BZ;rw[hc c (by simp[Op.operands]),hc a (by simp[Op.operands]),hc b (by simp[Op.operands])]
 case box t x=>unfold Qk;rw[hc x (by simp[Op.operands])]
 case build t ps=>
  have hp:∀p∈ps.toList,ev p.2=ev' p.2:=fun p hp=>hc p.2 (by simp only[Op.operands,List.mem_toArray,List.mem_map];exact⟨p,hp,rfl⟩)
  have hm:∀pl c,nH pl ev ps.toList c=nH pl ev' ps.toList c:=fun pl c=>aas pl _ c hp
  unfold Cc;simp only[hm]
 case buildSlice t n ps=>
  have hp:∀p∈ps.toList,ev p.2=ev' p.2:=fun p hp=>hc p.2 (by simp only[Op.operands,List.mem_toArray,List.mem_map];exact⟨p,hp,rfl⟩)
  have hm:∀pl c,nH pl ev ps.toList c=nH pl ev' ps.toList c:=fun pl c=>aas pl _ c hp
  unfold Ql;simp only[hm]
 case load t x=>unfold Ce;rw[hc x (by simp[Op.operands])]
 case store t x y=>unfold JU;rw[hc x (by simp[Op.operands]),hc y (by simp[Op.operands])]
 case nilCheck x=>unfold Cf;rw[hc x (by simp[Op.operands])]
 case binOp op t x y yt=>unfold Cj Qm Ci;rw[hc x (by simp[Op.operands]),hc y (by simp[Op.operands])]
 case unOp op t x=>unfold Cm;rw[hc x (by simp[Op.operands])]
 case convert s d x=>unfold zO;rw[hc x (by simp[Op.operands])]
 case makeFunc f a b=>
  unfold CB
  rw[Rj a.toList (fun x hx=>hc x (by simp only[Op.operands,Array.mem_append];exact .inl (by simpa using hx))),Rj b.toList (fun x hx=>hc x (by simp only[Op.operands,Array.mem_append];exact .inr (by simpa using hx)))]
 case makeMap t r=>
  cases r with
  |none=>rfl
  |some x=>unfold Qn;dsimp only;rw[hc x (by simp[Op.operands])]
 case makeSlice t l c=>unfold Qo wF;rw[hc l (by simp[Op.operands]),hc c (by simp[Op.operands])]
 case slice t x lo hi mx=>
  unfold CE
  rw[hc x (by simp[Op.operands]),Rk lo (fun y hy=>hc y (by simp only[Op.operands,Array.mem_append,Option.mem_toArray];simp at hy;exact .inl (.inl (.inr hy)))),
   Rk hi (fun y hy=>hc y (by simp only[Op.operands,Array.mem_append,Option.mem_toArray];simp at hy;exact .inl (.inr hy))),
   Rk mx (fun y hy=>hc y (by simp only[Op.operands,Array.mem_append,Option.mem_toArray];simp at hy;exact .inr hy))]
 case fieldAddr t x f=>unfold CG;rw[hc x (by simp[Op.operands])]
 case field t x f=>unfold CJ;rw[hc x (by simp[Op.operands])]
 case indexAddr t x i=>unfold CO wF;rw[hc x (by simp[Op.operands]),hc i (by simp[Op.operands])]
 case index t x i=>unfold CP wF;rw[hc x (by simp[Op.operands]),hc i (by simp[Op.operands])]
 case lookup t m k ok=>unfold CQ;rw[hc m (by simp[Op.operands]),hc k (by simp[Op.operands])]
 case mapUpdate t m k v=>unfold CS;rw[hc m (by simp[Op.operands]),hc k (by simp[Op.operands]),hc v (by simp[Op.operands])]
 case insert t m k v=>unfold CS;rw[hc m (by simp[Op.operands]),hc k (by simp[Op.operands]),hc v (by simp[Op.operands])]
 case range t x=>unfold JV;rw[hc x (by simp[Op.operands])]
 case next it s=>unfold JW;rw[hc it (by simp[Op.operands])]
 case entry it=>unfold JX;rw[hc it (by simp[Op.operands])]
 case extract t i=>unfold CU;rw[hc t (by simp[Op.operands])]
 case call c=>
  unfold wE
  rw[Rj c.args.toList (fun x hx=>hc x (by simp only[Op.operands,Call.operands,Array.mem_append];exact .inr (by simpa using hx)))]
  cases hcl:c.callee with
  |value f=>dsimp only;rw[hc f (by simp[Op.operands,Call.operands,hcl])]
  |invoke r m=>rfl
  |builtin b=>rfl
omit O in
theorem aau{o:Op}{k:gz}{b:MB}(h':MH)(ho:eY E ev o h=some (.new k b)):eY E ev o h'=some (.new k b):=by
 cases o<;>simp only[eY]at ho ⊢<;>first|exact ho|exact(aae ho).elim|exact(aaf ho).elim|skip
 case load=>exact(mJ (F6 _ _) ho).elim
 case convert=>rcases F8 ho with⟨v,e⟩|⟨S,D,e,T,b,-,-,-,-,-,-,-,e⟩|⟨S,D,e1,e2,T,xv,-,-,-,-,-,-,-,-,hm⟩<;>first|cases e|(obtain⟨_,_,_,_,_,_,_,_,-,-,-,e⟩:=Dj hm;cases e)
 case lookup=>exact(mJ (F7 _ _ _ _) ho).elim
 case call=>exact(aag ho).elim
end
end Go.aY
namespace Go.aY
open Go.RowKit
theorem aoX(p:PE)(l:List PE):(FK p l).Perm (p::l):=by
 induction l with
 |nil=>exact .refl _
 |cons q l ih=>
  show(Bool.rec (p::q::l) (q::FK p l) (Qp p.pre (q::l)):List PE).Perm _
  cases Qp p.pre (q::l)with
  |false=>exact .refl _
  |true=>exact(ih.cons q).trans (.swap _ _ _)
theorem aoY(l:List PE):∀acc,(FM l acc).Perm (l++acc):=by
 induction l with
 |nil=>intro acc;exact .refl _
 |cons p l ih=>
  intro acc
  show(FM l (Bool.rec (acc++[p]) (FK p acc) (floats p.o))).Perm _
  refine(ih _).trans ?_
  have:(Bool.rec (acc++[p]) (FK p acc) (floats p.o):List PE).Perm (p::acc):=by
   cases floats p.o with
   |false=>exact List.perm_append_comm
   |true=>exact aoX p acc
  refine(this.append_left l).trans ?_
  exact List.perm_middle
def Down(ops:Array Oper)(listed:Array Bool):Prop:=∀k o,ops[k]?=some o→listed.getD k false=true→∀e∈o.after,Region.binds .any e=true→listed.getD e.on false=true
def Gl(ops:Array Oper)(mask:Nat)(o:Oper):Prop:=
 ∀listed,Down ops listed→(∀e∈o.after,Region.binds .any e=true→listed.getD e.on false=true)→∀i,mask.testBit i=true→listed.getD i false=true
theorem aoZ(ms:List Nat)(e:Edge)(es:List Edge):qH ms (e::es) =
  Bool.rec (qH ms es) (Nat.lor (qH ms es) (Nat.lor (Nat.shiftLeft 1 e.on) (match jd ms e.on with|some m=>m|none=>0))) (Region.binds .any e):=rfl
theorem ao0(ms:List Nat):∀(es:List Edge) (i:Nat),(qH ms es).testBit i=true→∃e∈es,Region.binds .any e=true∧(e.on=i∨∃m,ms[e.on]?=some m∧m.testBit i=true):=by
 intro es
 induction es with
 |nil=>
   intro i h;have e:qH ms []=0:=rfl
   rw[e]at h;simp at h
 |cons e es ih=>
  intro i h
  rw[aoZ]at h
  cases hb:Region.binds .any e with
  |false=>
   rw[hb]at h
   obtain⟨e',h1,h2⟩:=ih i h
   exact⟨e',by simp[h1],h2⟩
  |true=>
   rw[hb]at h
   have h:((qH ms es) ||| ((1 <<< e.on) ||| (match jd ms e.on with|some m=>m|none=>0))).testBit i=true:=h
   rw[Nat.testBit_or,Nat.testBit_or,Bool.or_eq_true,Bool.or_eq_true]at h
   rcases h with h|h|h
   ·obtain⟨e',h1,h2⟩:=ih i h
    exact⟨e',by simp[h1],h2⟩
   ·refine⟨e,by simp,hb,.inl ?_⟩
    rw[Nat.one_shiftLeft,Nat.testBit_two_pow]at h
    simpa using h
   ·refine⟨e,by simp,hb,.inr ?_⟩
    rw[yh]at h
    split at h
    ·rename_i m hm;exact⟨m,hm,h⟩
    ·simp at h
theorem ao1(o:Oper)(l:List Oper)(i:Nat)(ms:List Nat):yc (o::l) i ms=⟨i,o,qH ms o.after.toList⟩::yc l (i+1) (ms++[qH ms o.after.toList]):=rfl
theorem ao2(ops:Array Oper):∀(l:List Oper) (i:Nat) (ms:List Nat),ms.length=i→(∀(j:Nat),l[j]?=ops[i+j]?)→(∀(j:Nat) (m:Nat),ms[j]?=some m→∃o,ops[j]?=some o∧Gl ops m o)→
  (yc l i ms).map (·.i)=List.range' i l.length∧∀p∈yc l i ms,ops[p.i]?=some p.o∧Gl ops p.pre p.o:=by
 intro l
 induction l with
 |nil=>intro i ms _ _ _;exact⟨rfl,fun p hp=>by cases hp⟩
 |cons o l ih=>
  intro i ms hlen hl hms
  rw[ao1]
  have ho:ops[i]?=some o:=by have:=hl 0;simpa using this.symm
  have hw:Gl ops (qH ms o.after.toList) o:=by
   intro listed hd he k hk
   obtain⟨e,h1,h2,h3⟩:=ao0 ms _ k hk
   have h1:e∈o.after:=by simpa using h1
   rcases h3 with rfl|⟨m,hm,hmk⟩
   ·exact he e h1 h2
   ·obtain⟨o',ho',hw'⟩:=hms _ m hm
    exact hw' listed hd (fun e' he' hb'=>hd _ o' ho' (he e h1 h2) e' he' hb') k hmk
  obtain⟨h1,h2⟩:=ih (i+1) (ms++[qH ms o.after.toList]) (by simp[hlen]) (fun j=>by have:=hl (j+1);simpa[Nat.add_assoc,Nat.add_comm 1 j]using this) (fun j m hm=>by
   by_cases hj:j<ms.length
   ·rw[List.getElem?_append_left hj]at hm;exact hms j m hm
   ·rw[List.getElem?_append_right (by omega)]at hm
    have hj0:j-ms.length=0:=by
     have:=(List.getElem?_eq_some_iff.1 hm).1
     simp at this;omega
    rw[hj0]at hm
    simp at hm
    subst hm
    exact⟨o,by rw[show j=i by omega];exact ho,hw⟩)
  refine⟨by simp[h1,List.range'_succ],fun p hp=>?_⟩
  rcases List.mem_cons.1 hp with rfl|hp
  ·exact⟨ho,hw⟩
  ·exact h2 p hp
structure ao3(ops:Array Oper)(l:List PE):Prop where
 idx:(l.map (·.i)).Perm (List.range ops.size)
 el:∀p∈l,ops[p.i]?=some p.o∧Gl ops p.pre p.o
 ok:zU ops l=true
theorem ao4{ops:Array Oper}{l:List PE}(h:JY ops=some l):ao3 ops l:=by
 unfold JY at h
 cases hc:zU ops (FM (yc ops.toList 0 []) [])with
 |false=>rw[hc]at h;cases h
 |true=>
  rw[hc]at h
  cases h
  have hp:=aoY (yc ops.toList 0 []) []
  rw[List.append_nil]at hp
  obtain⟨h1,h2⟩:=ao2 ops ops.toList 0 [] rfl (fun j=>by simp) (fun j m hm=>by simp at hm)
  refine⟨?_,fun p hpm=>h2 p (hp.mem_iff.1 hpm),hc⟩
  have:=hp.map (·.i)
  rw[h1,←List.range_eq_range']at this
  simpa using this
theorem aav:∀a b,CV a b=true→a=b
 | [],[],_=>rfl
 | [],_::_,h=>by simp[CV]at h
 |_::_,[],h=>by simp[CV]at h
 |a::x,b::y,h=>by
  simp only[CV,Bool.and_eq_true,Nat.beq_eq]at h
  rw[h.1,aav x y h.2]
mutual
theorem aaw:∀u v,eqv u v=true→u=v
 | .fn f a b,.fn g c d,h=>by
  simp only[eqv,Bool.and_eq_true,Nat.beq_eq]at h
  rw[h.1,Du a c h.2.1,Du b d h.2.2]
 | .agg a,.agg b,h=>by simp only[eqv]at h;rw[Du a b h]
 | .cu a,.cu b,h=>by simp only[eqv]at h;rw[Du a b h]
 | .bool a,.bool b,h=>by simp only[eqv,beq_iff_eq]at h;rw[h]
 | .int k a,.int k' b,h=>by simp only[eqv,Bool.and_eq_true,decide_eq_true_eq]at h;rw[h.1,h.2]
 | .str a,.str b,h=>by simp only[eqv]at h;rw[aav a b h]
 | .dB,.dB,_=>rfl
 | .bG,.bG,_=>rfl
 | .bK,.bK,_=>rfl
 | .di,.di,_=>rfl
 | .dK,.dK,_=>rfl
 | .ptr a b,.ptr c d,h=>by simp only[eqv,Bool.and_eq_true,Nat.beq_eq]at h;rw[h.1,h.2]
 | .mp a,.mp b,h=>by simp only[eqv,Nat.beq_eq]at h;rw[h]
 | .opq a,.opq b,h=>by simp only[eqv,Nat.beq_eq]at h;rw[h]
 | .sl a b c d,.sl a' b' c' d',h=>by simp only[eqv,Bool.and_eq_true,Nat.beq_eq]at h;rw[h.1.1,h.1.2,h.2.1,h.2.2]
 | .bU a b c d,.bU a' b' c' d',h=>by simp only[eqv,Bool.and_eq_true,Nat.beq_eq]at h;rw[h.1.1,h.1.2,h.2.1,h.2.2]
 | .sle a b c d,.sle a' b' c' d',h=>by simp only[eqv,Bool.and_eq_true,Nat.beq_eq]at h;rw[h.1.1,h.1.2,h.2.1,h.2.2]
 | .dh a,.dh b,h=>by simp only[eqv,Nat.beq_eq]at h;rw[h]
 | .bool ..,.int ..,h | .bool ..,.str ..,h | .bool ..,.dB,h | .bool ..,.ptr ..,h | .bool ..,.bG,h | .bool ..,.sl ..,h | .bool ..,.bU ..,h | .bool ..,.sle ..,h | .bool ..,.bK,h | .bool ..,.mp ..,h | .bool ..,.fn ..,h | .bool ..,.dh ..,h | .bool ..,.di,h | .bool ..,.dK,h | .bool ..,.agg ..,h | .bool ..,.cu ..,h=>by simp[eqv]at h
 | .int ..,.bool ..,h | .int ..,.str ..,h | .int ..,.dB,h | .int ..,.ptr ..,h | .int ..,.bG,h | .int ..,.sl ..,h | .int ..,.bU ..,h | .int ..,.sle ..,h | .int ..,.bK,h | .int ..,.mp ..,h | .int ..,.fn ..,h | .int ..,.dh ..,h | .int ..,.di,h | .int ..,.dK,h | .int ..,.agg ..,h | .int ..,.cu ..,h=>by simp[eqv]at h
 | .str ..,.bool ..,h | .str ..,.int ..,h | .str ..,.dB,h | .str ..,.ptr ..,h | .str ..,.bG,h | .str ..,.sl ..,h | .str ..,.bU ..,h | .str ..,.sle ..,h | .str ..,.bK,h | .str ..,.mp ..,h | .str ..,.fn ..,h | .str ..,.dh ..,h | .str ..,.di,h | .str ..,.dK,h | .str ..,.agg ..,h | .str ..,.cu ..,h=>by simp[eqv]at h
 | .dB,.bool ..,h | .dB,.int ..,h | .dB,.str ..,h | .dB,.ptr ..,h | .dB,.bG,h | .dB,.sl ..,h | .dB,.bU ..,h | .dB,.sle ..,h | .dB,.bK,h | .dB,.mp ..,h | .dB,.fn ..,h | .dB,.dh ..,h | .dB,.di,h | .dB,.dK,h | .dB,.agg ..,h | .dB,.cu ..,h=>by simp[eqv]at h
 | .ptr ..,.bool ..,h | .ptr ..,.int ..,h | .ptr ..,.str ..,h | .ptr ..,.dB,h | .ptr ..,.bG,h | .ptr ..,.sl ..,h | .ptr ..,.bU ..,h | .ptr ..,.sle ..,h | .ptr ..,.bK,h | .ptr ..,.mp ..,h | .ptr ..,.fn ..,h | .ptr ..,.dh ..,h | .ptr ..,.di,h | .ptr ..,.dK,h | .ptr ..,.agg ..,h | .ptr ..,.cu ..,h=>by simp[eqv]at h
 | .bG,.bool ..,h | .bG,.int ..,h | .bG,.str ..,h | .bG,.dB,h | .bG,.ptr ..,h | .bG,.sl ..,h | .bG,.bU ..,h | .bG,.sle ..,h | .bG,.bK,h | .bG,.mp ..,h | .bG,.fn ..,h | .bG,.dh ..,h | .bG,.di,h | .bG,.dK,h | .bG,.agg ..,h | .bG,.cu ..,h=>by simp[eqv]at h
 | .sl ..,.bool ..,h | .sl ..,.int ..,h | .sl ..,.str ..,h | .sl ..,.dB,h | .sl ..,.ptr ..,h | .sl ..,.bG,h | .sl ..,.bU ..,h | .sl ..,.sle ..,h | .sl ..,.bK,h | .sl ..,.mp ..,h | .sl ..,.fn ..,h | .sl ..,.dh ..,h | .sl ..,.di,h | .sl ..,.dK,h | .sl ..,.agg ..,h | .sl ..,.cu ..,h=>by simp[eqv]at h
 | .bU ..,.bool ..,h | .bU ..,.int ..,h | .bU ..,.str ..,h | .bU ..,.dB,h | .bU ..,.ptr ..,h | .bU ..,.bG,h | .bU ..,.sl ..,h | .bU ..,.sle ..,h | .bU ..,.bK,h | .bU ..,.mp ..,h | .bU ..,.fn ..,h | .bU ..,.dh ..,h | .bU ..,.di,h | .bU ..,.dK,h | .bU ..,.agg ..,h | .bU ..,.cu ..,h=>by simp[eqv]at h
 | .bK,.bool ..,h | .bK,.int ..,h | .bK,.str ..,h | .bK,.dB,h | .bK,.ptr ..,h | .bK,.bG,h | .bK,.sl ..,h | .bK,.bU ..,h | .bK,.sle ..,h | .bK,.mp ..,h | .bK,.fn ..,h | .bK,.dh ..,h | .bK,.di,h | .bK,.dK,h | .bK,.agg ..,h | .bK,.cu ..,h=>by simp[eqv]at h
 | .mp ..,.bool ..,h | .mp ..,.int ..,h | .mp ..,.str ..,h | .mp ..,.dB,h | .mp ..,.ptr ..,h | .mp ..,.bG,h | .mp ..,.sl ..,h | .mp ..,.bU ..,h | .mp ..,.sle ..,h | .mp ..,.bK,h | .mp ..,.fn ..,h | .mp ..,.dh ..,h | .mp ..,.di,h | .mp ..,.dK,h | .mp ..,.agg ..,h | .mp ..,.cu ..,h=>by simp[eqv]at h
 | .fn ..,.bool ..,h | .fn ..,.int ..,h | .fn ..,.str ..,h | .fn ..,.dB,h | .fn ..,.ptr ..,h | .fn ..,.bG,h | .fn ..,.sl ..,h | .fn ..,.bU ..,h | .fn ..,.sle ..,h | .fn ..,.bK,h | .fn ..,.mp ..,h | .fn ..,.dh ..,h | .fn ..,.di,h | .fn ..,.dK,h | .fn ..,.agg ..,h | .fn ..,.cu ..,h=>by simp[eqv]at h
 | .di,.bool ..,h | .di,.int ..,h | .di,.str ..,h | .di,.dB,h | .di,.ptr ..,h | .di,.bG,h | .di,.sl ..,h | .di,.bU ..,h | .di,.sle ..,h | .di,.bK,h | .di,.mp ..,h | .di,.fn ..,h | .di,.dh ..,h | .di,.dK,h | .di,.agg ..,h | .di,.cu ..,h=>by simp[eqv]at h
 | .dK,.bool ..,h | .dK,.int ..,h | .dK,.str ..,h | .dK,.dB,h | .dK,.ptr ..,h | .dK,.bG,h | .dK,.sl ..,h | .dK,.bU ..,h | .dK,.sle ..,h | .dK,.bK,h | .dK,.mp ..,h | .dK,.fn ..,h | .dK,.dh ..,h | .dK,.di,h | .dK,.agg ..,h | .dK,.cu ..,h=>by simp[eqv]at h
 | .agg ..,.bool ..,h | .agg ..,.int ..,h | .agg ..,.str ..,h | .agg ..,.dB,h | .agg ..,.ptr ..,h | .agg ..,.bG,h | .agg ..,.sl ..,h | .agg ..,.bU ..,h | .agg ..,.sle ..,h | .agg ..,.bK,h | .agg ..,.mp ..,h | .agg ..,.fn ..,h | .agg ..,.dh ..,h | .agg ..,.di,h | .agg ..,.dK,h | .agg ..,.cu ..,h=>by simp[eqv]at h
 | .cu ..,.bool ..,h | .cu ..,.int ..,h | .cu ..,.str ..,h | .cu ..,.dB,h | .cu ..,.ptr ..,h | .cu ..,.bG,h | .cu ..,.sl ..,h | .cu ..,.bU ..,h | .cu ..,.sle ..,h | .cu ..,.bK,h | .cu ..,.mp ..,h | .cu ..,.fn ..,h | .cu ..,.dh ..,h | .cu ..,.di,h | .cu ..,.dK,h | .cu ..,.agg ..,h=>by simp[eqv]at h
 | .sle ..,.bool ..,h | .sle ..,.int ..,h | .sle ..,.str ..,h | .sle ..,.dB,h | .sle ..,.ptr ..,h | .sle ..,.bG,h | .sle ..,.sl ..,h | .sle ..,.bU ..,h | .sle ..,.bK,h | .sle ..,.mp ..,h | .sle ..,.fn ..,h | .sle ..,.dh ..,h | .sle ..,.di,h | .sle ..,.dK,h | .sle ..,.agg ..,h | .sle ..,.cu ..,h=>by simp[eqv]at h
 | .dh ..,.bool ..,h | .dh ..,.int ..,h | .dh ..,.str ..,h | .dh ..,.dB,h | .dh ..,.ptr ..,h | .dh ..,.bG,h | .dh ..,.sl ..,h | .dh ..,.bU ..,h | .dh ..,.sle ..,h | .dh ..,.bK,h | .dh ..,.mp ..,h | .dh ..,.fn ..,h | .dh ..,.di,h | .dh ..,.dK,h | .dh ..,.agg ..,h | .dh ..,.cu ..,h=>by simp[eqv]at h
 | .opq ..,.bool ..,h | .opq ..,.int ..,h | .opq ..,.str ..,h | .opq ..,.dB,h | .opq ..,.ptr ..,h | .opq ..,.bG,h | .opq ..,.sl ..,h | .opq ..,.bU ..,h | .opq ..,.sle ..,h | .opq ..,.bK,h | .opq ..,.mp ..,h | .opq ..,.fn ..,h | .opq ..,.dh ..,h | .opq ..,.di,h | .opq ..,.dK,h | .opq ..,.agg ..,h | .opq ..,.cu ..,h=>by simp[eqv]at h
 | .bool ..,.opq ..,h | .int ..,.opq ..,h | .str ..,.opq ..,h | .dB,.opq ..,h | .ptr ..,.opq ..,h | .bG,.opq ..,h | .sl ..,.opq ..,h | .bU ..,.opq ..,h | .sle ..,.opq ..,h | .bK,.opq ..,h | .mp ..,.opq ..,h | .fn ..,.opq ..,h | .dh ..,.opq ..,h | .di,.opq ..,h | .dK,.opq ..,h | .agg ..,.opq ..,h | .cu ..,.opq ..,h=>by simp[eqv]at h
theorem Du:∀a b,sJ a b=true→a=b
 | [],[],_=>rfl
 | [],_::_,h=>by simp[sJ]at h
 |_::_,[],h=>by simp[sJ]at h
 |a::x,b::y,h=>by
  simp only[sJ,Bool.and_eq_true]at h
  rw[aaw a b h.1,Du x y h.2]
end
theorem ao5:∀a b,qG a b=true→a=b
 | .cells a t e o,.cells b t' e' o',h=>by
  simp only[qG,Bool.and_eq_true,Nat.beq_eq,beq_iff_eq]at h
  rw[Du a b h.1,h.2.1.1,h.2.1.2,h.2.2]
 | .map [] c,.map [] c',h=>by simp only[qG,Nat.beq_eq]at h;rw[h]
 | .map [] _,.map (_::_) _,h=>by simp[qG]at h
 | .map (_::_) _,b,h=>by cases b<;>simp[qG]at h
 | .cells ..,.map ..,h | .cells ..,.iter ..,h | .cells ..,.loop ..,h | .cells ..,.sG,h | .cells ..,.dead,h=>by simp[qG]at h
 | .map [] _,.cells ..,h | .map [] _,.iter ..,h | .map [] _,.loop ..,h | .map [] _,.sG,h | .map [] _,.dead,h=>by simp[qG]at h
 | .iter ..,b,h=>by cases b<;>simp[qG]at h
 | .loop ..,b,h=>by cases b<;>simp[qG]at h
 | .sG,b,h=>by cases b<;>simp[qG]at h
 | .dead,b,h=>by cases b<;>simp[qG]at h
variable [O:dO]
omit O in
theorem KR{d:Option Tmp}{l:List Tmp}(h:kR d l=false):∀t,d=some t→t∉l:=by
 rintro t rfl ht
 simp only[kR,List.any_eq_false]at h
 exact h t ht (Nat.beq_refl t)
omit O in
theorem ao6{a b:Option Tmp}(h:yf a b=false):∀t,a=some t→b≠some t:=by
 rintro t rfl rfl
 simp[yf,Nat.beq_refl]at h
def Rl(ops:Array Oper)(p:PE):Prop:=zT p.o=true∧kR p.o.dst (p.o.looksAt ops)=false∧Qq p=true
omit O in
theorem ao7(ops:Array Oper):∀l,zU ops l=true↔(∀p∈l,Rl ops p)∧l.Pairwise (fun p q=>zS ops p q=true):=by
 intro l
 induction l with
 |nil=>simp[zU]
 |cons p l ih=>
  simp only[zU,Bool.and_eq_true,ih,List.forall_mem_cons,List.pairwise_cons,List.all_eq_true,Rl,Bool.not_eq_true']
  constructor
  ·rintro⟨⟨a,b,c⟩,d,e,f⟩;exact⟨⟨⟨a,b,c⟩,e⟩,d,f⟩
  ·rintro⟨⟨⟨a,b,c⟩,e⟩,d,f⟩;exact⟨⟨a,b,c⟩,d,e,f⟩
omit O in
theorem aax{ops:Array Oper}{p q:PE}(h:zS ops p q=true)(hq:floats q.o=true) :
  kR q.o.dst (p.o.looksAt ops)=false∧yf p.o.dst q.o.dst=false∧(q.pre.testBit p.i=true∨floats p.o=true∧kR p.o.dst (q.o.looksAt ops)=false):=by
 simp only[zS,hq,Bool.not_true,Bool.and_false,Bool.false_or,Bool.and_eq_true,Bool.or_eq_true,Bool.not_eq_true']at h
 exact⟨h.1.1,h.1.2,h.2⟩
omit O in
theorem Rn{ops:Array Oper}{p q:PE}(h:zS ops p q=true)(hw:q.pre.testBit p.i=false) :
  kR q.o.dst (p.o.looksAt ops)=false∧yf p.o.dst q.o.dst=false∧floats p.o=true∧kR p.o.dst (q.o.looksAt ops)=false:=by
 simp only[zS,hw,Bool.false_and,Bool.false_or,Bool.and_eq_true,Bool.not_eq_true']at h
 exact⟨h.1.1,h.1.2,h.2.1,h.2.2⟩
omit O in
theorem aay{ops:Array Oper}{o:Oper}{t:Tmp}(h:Operand.tmp t∈o.op.operands):t∈o.looksAt ops:=
 List.mem_append_left _ (List.mem_filterMap.2 ⟨.tmp t,by simpa using h,rfl⟩)
omit O in
theorem Ae(m:MA)(dst:Option Tmp)(v:MV):(m.put dst v).nt=m.nt:=by
 cases dst with
 |none=>rfl
 |some d=>unfold MA.put;dsimp only;cases Nat.blt d m.nt<;>rfl
omit O in
theorem KU(m:MA)(dst:Option Tmp)(v:MV):(m.put dst v).defs=m.defs:=by
 cases dst with
 |none=>rfl
 |some d=>unfold MA.put;dsimp only;cases Nat.blt d m.nt<;>rfl
omit O in
theorem Gm(m:MA){dst:Option Tmp}(v:MV){k:Nat}(h:dst≠some k):(m.put dst v).tmps.get k=m.tmps.get k:=by
 cases dst with
 |none=>rfl
 |some d=>
  unfold MA.put;dsimp only
  cases Nat.blt d m.nt with
  |false=>rfl
  |true=>
   show(m.tmps.put d v).get k=_
   rw[Tr.get_put,if_neg (fun e=>h (by rw[e]))]
omit O in
theorem aaz(m:MA)(v:MV){k:Nat}(h:k<m.nt):(m.put (some k) v).tmps.get k=some v:=by
 unfold MA.put;dsimp only
 rw[FZ h]
 show(m.tmps.put k v).get k=_
 rw[Tr.get_put,if_pos rfl]
omit O in
theorem aaA(m:MA)(v:MV){k:Nat}(h:¬k<m.nt):m.put (some k) v=m:=by
 unfold MA.put;dsimp only
 cases hb:Nat.blt k m.nt with
 |true=>exact absurd (sS hb) h
 |false=>rfl
def Has(m:MA)(dst:Option Tmp)(v:MV):Prop:=∀d,dst=some d→d<m.nt→m.tmps.get d=some v
omit O in
theorem Ro(m:MA)(dst:Option Tmp)(v:MV):Has (m.put dst v) dst v:=by
 rintro d rfl hd
 rw[Ae]at hd
 exact aaz m v hd
omit O in
theorem Has.put{m:MA}{dst dst':Option Tmp}{v v':MV}(h:Has m dst v)(hs:yf dst dst'=false):Has (m.put dst' v') dst v:=by
 intro d hd hlt
 rw[Ae]at hlt
 rw[Gm m v' (ao6 hs d hd)]
 exact h d hd hlt
section
variable {E:Env}
omit O in
theorem Gn(m:MA){ops:Array Oper}{o:Oper}{dst:Option Tmp}(v:MV)(h:MH)(hd:kR dst (o.looksAt ops)=false):eY E ((m.put dst v).eval E.G) o.op h=eY E (m.eval E.G) o.op h:=by
 refine aat o.op fun x hx=>?_
 cases x with
 |tmp t=>exact Gm m v (fun e=>KR hd t e (aay hx))
 |const _=>rfl
 |global _=>rfl
 |func _=>rfl
omit O in
theorem Dv(m:MA){ops:Array Oper}{o:Oper}{dst:Option Tmp}(v:MV)(hd:kR dst (o.looksAt ops)=false):mD ops (m.put dst v) o=mD ops m o:=by
 unfold mD
 cases hg:o.guard with
 |none=>rfl
 |some gw=>
  obtain⟨g,want⟩:=gw
  dsimp only
  rw[yw]
  cases hgo:ops[g]? with
  |none=>rfl
  |some og=>
   dsimp only
   cases ht:og.dst with
   |none=>rfl
   |some t=>
    dsimp only
    rw[Gm m v (fun e=>KR hd t e (by simp[Oper.looksAt,hg,hgo,ht]))]
def Still(E:Env)(ev:Ev)(h:MH)(g:FL):Prop:=
 match g.r with
 | .skip=>True
 | .look v=>eY E ev g.p.o.op h=some (.val v)
 | .oJ id _ b=>h.get id=some b
omit O in
theorem aaB{ev:Ev}{h:MH}{mask:Nat}{g:FL}(hs:CX E ev h mask g=true)(hm:mask.testBit g.p.i=false):Still E ev h g:=by
 unfold CX at hs
 rw[show Nat.testBit mask g.p.i=false from hm]at hs
 unfold Still
 cases hr:g.r with
 |skip=>trivial
 |look v=>
  simp only[hr]at hs ⊢
  split at hs
  ·rename_i u hu;rw[hu,aaw u v hs]
  ·cases hs
 |oJ id k b=>
  simp only[hr]at hs ⊢
  split at hs
  ·rename_i c hc;rw[hc,ao5 c b hs]
  ·cases hs
omit O in
theorem ao8(ev:Ev)(h:MH)(mask:Nat)(f:FL)(fl:List FL):wG E ev h mask (f::fl)=Bool.rec false (wG E ev h mask fl) (CX E ev h mask f):=rfl
omit O in
theorem aaC{ev:Ev}{h:MH}{mask:Nat}:∀{fl:List FL},wG E ev h mask fl=true→∀g∈fl,CX E ev h mask g=true:=by
 intro fl
 induction fl with
 |nil=>intro _ g hg;cases hg
 |cons f fl ih=>
  intro hs g hg
  rw[ao8]at hs
  cases hf:CX E ev h mask f with
  |false=>rw[hf]at hs;cases hs
  |true=>
   rw[hf]at hs
   rcases List.mem_cons.1 hg with rfl|hg
   ·exact hf
   ·exact ih hs g hg
omit O in
theorem ao9(mask:Nat)(f:FL)(fl:List FL):uP mask (f::fl)=Bool.rec (f::uP mask fl) (uP mask fl) (Nat.testBit mask f.p.i):=rfl
omit O in
theorem apa{mask:Nat}:∀{fl:List FL} {g:FL},g∈fl→mask.testBit g.p.i=false→g∈uP mask fl:=by
 intro fl
 induction fl with
 |nil=>intro g hg;cases hg
 |cons f fl ih=>
  intro g hg hm
  rw[ao9]
  rcases List.mem_cons.1 hg with rfl|hg
  ·rw[show Nat.testBit mask g.p.i=false from hm];exact List.mem_cons_self ..
  ·cases Nat.testBit mask f.p.i with
   |false=>exact List.mem_cons_of_mem _ (ih hg hm)
   |true=>exact ih hg hm
structure Dw(E:Env)(ops:Array Oper)(V:Nat→Prop)(n0:Nat)(m:MA)(h:MH)(g:FL):Prop where
 fl:floats g.p.o=true
 sk:g.r=.skip→mD ops m g.p.o=some false∧Has m g.p.o.dst jM
 lk:∀v,g.r=.look v→mD ops m g.p.o=some true∧eY E (m.eval E.G) g.p.o.op h=some (.val v)∧Has m g.p.o.dst v
 al:∀id k b,g.r=.oJ id k b→mD ops m g.p.o=some true∧eY E (m.eval E.G) g.p.o.op h=some (.new k b)∧Has m g.p.o.dst (k.at id)∧
  ¬V id∧id<h.nx∧E.G.ro≤id∧n0≤id∧h.get id=some b
omit O in
theorem Dw.put{ops:Array Oper}{V V':Nat→Prop}{n0:Nat}{m:MA}{h h':MH}{g:FL}(hg:Dw E ops V n0 m h g){dst:Option Tmp}{v:MV}(hd:kR dst (g.p.o.looksAt ops)=false)
  (hs:yf g.p.o.dst dst=false) (hst:Still E ((m.put dst v).eval E.G) h' g) (hV:∀id,V' id→V id∨h.nx≤id) (hnx:h.nx≤h'.nx):Dw E ops V' n0 (m.put dst v) h' g:=by
 unfold Still at hst
 refine⟨hg.fl,fun hr=>?_,fun u hr=>?_,fun id k b hr=>?_⟩
 ·obtain⟨h1,h2⟩:=hg.sk hr
  exact⟨by rw[Dv m v hd];exact h1,h2.put hs⟩
 ·obtain⟨h1,h2,h3⟩:=hg.lk u hr
  simp only[hr]at hst
  exact⟨by rw[Dv m v hd];exact h1,hst,h3.put hs⟩
 ·obtain⟨h1,h2,h3,h4,h5,h6,h7,h8⟩:=hg.al id k b hr
  simp only[hr]at hst
  refine⟨by rw[Dv m v hd];exact h1,?_,h3.put hs,fun hv=>?_,Nat.lt_of_lt_of_le h5 hnx,h6,h7,hst⟩
  ·rw[Gn m v h' hd];exact aau h' h2
  ·rcases hV id hv with hv|hv
   ·exact h4 hv
   ·omega
end
end Go.aY
namespace Go.aY
variable [O:dO]
open Go.RowKit
section
variable {E:Env} {P:Program} {B:Nat→Prop} {W0:World} {σ:Sg} {V:Nat→Prop} {h:MH} {w:World}
theorem apb(hE:bM E P)(hW:∀k,B k→k<W0.heap.size){go:Task→MH→Option (MV×MH)}(hgo:pM E P B W0 go)(r:Option Nat){o:Oper}(hnd:∀c,o.op≠.defer c)
  (R:Rel E.G B W0 σ V h w) {ev:Ev} {a:Act} (hev:eP σ V ev a.eval) {v:MV} {h':MH} (ho:mF go h (eY E ev o.op h)=some (v,h'))
  {K:Act→World→Prop} {Q:Exit→Act→World→Prop}
  (hK:∀σ' V' w',dI V σ σ'→(∀id,V id→V' id)→(∀id,V' id→V id∨h.nx≤id)→h.nx≤h'.nx→Rel E.G B W0 σ' V' h' w'→wf σ' V' v→K (a.put o.dst (af σ' v)) w') :
  o.wpIn (fence r) 0 P a w K Q:=by
 unfold Oper.wpIn
 refine⟨fun f _=>yB r f,?_⟩
 rw[Oper.semAt_eq _ _ _ hnd]
 cases hm:eY E ev o.op h with
 |none=>rw[hm]at ho;cases ho
 |some res=>
  rw[hm]at ho
  cases res with
  |val u=>
   simp only[mF,Option.some.injEq,Prod.mk.injEq]at ho
   obtain⟨rfl,rfl⟩:=ho
   obtain⟨h1,h2⟩:=look_ok hE R hev o hm
   rw[h2,Oper.uponIn_value]
   exact hK σ V w (dI.refl _ _) (fun _ hx=>hx) (fun _ hx=>.inl hx) (Nat.le_refl _) R h1
  |new k b=>
   simp only[mF,Option.some.injEq,Prod.mk.injEq]at ho
   obtain⟨rfl,rfl⟩:=ho
   have kK:¬V h.nx:=fun hv=>Nat.lt_irrefl _ (R.vx _ hv)
   obtain⟨obj,h1,h2,h3⟩:=QV hE hev o hm kK w
   rw[h1,Oper.uponIn_value]
   have hag:=qJ (V:=V) σ ⟨w.heap.size,0,0⟩ kK
   exact hK _ _ _ hag (fun _ hx=>.inl hx) (fun _ hx=>hx.imp (fun x=>x) (fun e=>Nat.le_of_eq e.symm)) (Nat.le_succ _) (R.alloc (R.size hW) 0 0 h2) h3
  |upd u h1=>
   simp only[mF,Option.some.injEq,Prod.mk.injEq]at ho
   obtain⟨rfl,rfl⟩:=ho
   obtain⟨σ',V',w',g1,g2,g3,g4,g5,g6,g7⟩:=aam hE R hW hev o hm
   have key:=hK σ' V' w' g1 g2 g3 g4 g5 g6
   rcases g7 with g7|⟨rfl,g7⟩
   ·rw[g7,Oper.uponIn_value];exact key
   ·rw[g7,Oper.uponIn_skip]
    exact key
  |enter f args=>
   simp only[mF]at ho
   obtain⟨F,hF,hb,hcall⟩:=hgo.1 f args h v h' ho
   obtain⟨-,h2,h3⟩:=aan hE hev o hm w
   rw[h3 F hF hb,Oper.uponIn_enter]
   refine⟨fun hd=>(by rw[Gh]at hd;cases hd),Q7 ?_⟩
   refine(hcall σ V w R h2).mono ?_
   rintro e w' ⟨σ',V',g1,g2,g3,g4,g5,g6,rfl⟩
   exact hK σ' V' w' g1 g2 g3 g4 g5 g6
  |round l args=>
   simp only[mF]at ho
   obtain⟨h1,h2,h3⟩:=aao hev o hm w
   obtain⟨f,tm,assign,body,hy,D6⟩:=hgo.2 l args h v h' ho σ V w R h1 h2
   rw[h3,hy,Oper.uponIn_round]
   refine⟨fun hd=>(by rw[Gh]at hd;cases hd),aap ?_⟩
   refine D6.mono ?_
   rintro e w' ⟨σ',V',g1,g2,g3,g4,g5,g6,rfl⟩
   exact hK σ' V' w' g1 g2 g3 g4 g5 g6
structure oM(σ:Sg)(V:Nat→Prop)(Gs:List FL)(m:MA)(a:Act):Prop where
 size:a.tmps.size=m.nt
 cell:∀k v,m.tmps.get k=some v→(∃g∈Gs,g.p.o.dst=some k∧k<m.nt)∨wf σ V v∧a.tmps[k]?=some (af σ v)
 df:a.defers=m.defs.map (yA σ)
 dv:∀d∈m.defs,V d
noncomputable def Dx(m:MA)(G:GB)(l:List Tmp):Ev:=fun x=>match x with
 | .tmp t=>if t∈l then m.tmps.get t else none
 |x=>m.eval G x
omit O in
theorem Rq{m:MA}{ops:Array Oper}(o:Oper)(h:MH):eY E (Dx m E.G (o.looksAt ops)) o.op h=eY E (m.eval E.G) o.op h:=by
 refine aat o.op fun x hx=>?_
 cases x with
 |tmp t=>simp only[Dx,MA.eval];rw[if_pos (aay hx)]
 |const _=>rfl
 |global _=>rfl
 |func _=>rfl
theorem oM.Dp{Gs:List FL}{m:MA}{a:Act}(T:oM σ V Gs m a)(R:Rel E.G B W0 σ V h w){l:List Tmp}(hl:∀g∈Gs,kR g.p.o.dst l=false):eP σ V (Dx m E.G l) a.eval:=by
 intro x v hx
 cases x with
 |tmp t=>
  simp only[Dx]at hx
  split at hx
  ·rename_i ht
   rcases T.cell t v hx with⟨g,hg,hd,-⟩|⟨h1,h2⟩
   ·exact absurd ht (KR (hl g hg) t hd)
   ·refine⟨h1,?_⟩
    show a.tmps.getD t undef=_
    rw[Array.getD_eq_getD_getElem?,h2];rfl
  ·cases hx
 |const u=>
  obtain⟨h1,h2⟩:=FU σ V u v hx
  exact⟨h2,h1.symm⟩
 |global g=>
  simp only[Dx,MA.eval]at hx
  cases hb:Nat.blt g E.G.g0 with
  |false=>rw[hb]at hx;cases hx
  |true=>
   rw[hb]at hx
   cases hx
   obtain⟨h1,h2,h3⟩:=R.qI g (sS hb)
   refine⟨h1,?_⟩
   simp only[Act.eval,af,h2,h3]
 |func f=>
  simp only[Dx,MA.eval,Option.some.injEq]at hx
  subst hx
  exact⟨by simp only[wf,wfs];exact⟨trivial,trivial⟩,rfl⟩
theorem oM.wanted{Gs:List FL}{m:MA}{a:Act}(T:oM σ V Gs m a){ops:Array Oper}{o:Oper}(hl:∀g∈Gs,kR g.p.o.dst (o.looksAt ops)=false){b:Bool}(hw:mD ops m o=some b) :
  Region.wanted o (yielded ops a.tmps)=b:=by
 unfold mD at hw
 unfold Region.wanted
 split at hw
 ·rename_i hg
  cases hw
  simp only[hg]
 ·rename_i j want hg
  simp only[hg]
  split at hw
  ·rename_i g hgo
   rw[yw]at hgo
   split at hw
   ·rename_i d hd
    have hin:d∈o.looksAt ops:=by simp[Oper.looksAt,hg,hgo,hd]
    have cell:∀u,m.tmps.get d=some u→a.tmps[d]?=some (af σ u):=fun u hu=>by
     rcases T.cell d u hu with⟨g,hg,hd,-⟩|⟨-,h2⟩
     ·exact absurd hin (KR (hl g hg) d hd)
     ·exact h2
    split at hw
    ·rename_i c hc
     cases hw
     have h2:=cell _ hc
     unfold yielded
     simp only[hgo,Option.bind_some,hd,h2,af]
     cases c<;>cases want<;>rfl
    ·rename_i vs hc
     cases hw
     have h2:=cell _ hc
     unfold yielded
     simp only[hgo,Option.bind_some,hd,h2,af]
     cases want<;>rfl
    ·cases hw
   ·cases hw
  ·cases hw
theorem oM.both{Gs:List FL}{m:MA}{a:Act}(T:oM σ V Gs m a){σ':Sg}{V':Nat→Prop}(hag:dI V σ σ')(hV:∀id,V id→V' id)(dst:Option Tmp){v:MV}(hv:wf σ' V' v) :
  oM σ' V' Gs (m.put dst v) (a.put dst (af σ' v)):=by
 have hsz:(a.put dst (af σ' v)).tmps.size=a.tmps.size:=by cases dst<;>simp[Act.put]
 have hdf:(a.put dst (af σ' v)).defers=a.defers:=by cases dst<;>rfl
 refine⟨by rw[hsz,Ae];exact T.size,fun k u hu=>?_,?_,fun d hd=>hV d (T.dv d (by rw[KU]at hd;exact hd))⟩
 ·by_cases hk:dst=some k∧k<m.nt
  ·obtain⟨rfl,hk⟩:=hk
   rw[aaz m v hk]at hu
   cases hu
   refine .inr ⟨hv,?_⟩
   simp only[Act.put]
   rw[Array.getElem?_setIfInBounds,if_pos rfl,if_pos (by rw[T.size];exact hk)]
  ·have hold:m.tmps.get k=some u:=by
    by_cases e:dst=some k
    ·subst e;rw[aaA m v (fun hk'=>hk ⟨rfl,hk'⟩)]at hu;exact hu
    ·rw[Gm m v e]at hu;exact hu
   rcases T.cell k u hold with⟨g,hg,hd,hlt⟩|⟨h1,h2⟩
   ·exact .inl ⟨g,hg,hd,by rw[Ae];exact hlt⟩
   ·refine .inr ⟨Dh hag hV _ h1,?_⟩
    rw[uU hag _ h1,←h2]
    cases dst with
    |none=>rfl
    |some d=>
     simp only[Act.put]
     by_cases e:d=k
     ·subst e
      rw[Array.getElem?_setIfInBounds,if_pos rfl,if_neg (by rw[T.size];exact fun hk'=>hk ⟨rfl,hk'⟩),Array.getElem?_eq_none (by rw[T.size];exact Nat.le_of_not_lt (fun hk'=>hk ⟨rfl,hk'⟩))]
     ·exact Array.getElem?_setIfInBounds_ne e
 ·rw[hdf,KU,T.df]
  exact List.map_congr_left fun d hd=>by simp only[yA,hag d (T.dv d hd)]
theorem oM.ahead{Gs:List FL}{m:MA}{a:Act}(T:oM σ V Gs m a)(g:FL)(v:MV):oM σ V (Gs++[g]) (m.put g.p.o.dst v) a:=by
 refine⟨by rw[Ae];exact T.size,fun k u hu=>?_,by rw[KU];exact T.df,fun d hd=>T.dv d (by rw[KU]at hd;exact hd)⟩
 by_cases hk:g.p.o.dst=some k∧k<m.nt
 ·exact .inl ⟨g,by simp,hk.1,by rw[Ae];exact hk.2⟩
 ·have hold:m.tmps.get k=some u:=by
   by_cases e:g.p.o.dst=some k
   ·rw[e,aaA m v (fun hk'=>hk ⟨e,hk'⟩)]at hu;exact hu
   ·rw[Gm m v e]at hu;exact hu
  rcases T.cell k u hold with⟨g',hg,hd,hlt⟩|h1
  ·exact .inl ⟨g',by simp[hg],hd,by rw[Ae];exact hlt⟩
  ·exact .inr h1
theorem oM.catch{G1 G2:List FL}{g:FL}{m:MA}{a:Act}(T:oM σ V (G1++g::G2) m a){σ':Sg}{V':Nat→Prop}(hag:dI V σ σ')(hV:∀id,V id→V' id){v:MV}(hv:wf σ' V' v)
  (hh:Has m g.p.o.dst v):oM σ' V' (G1++G2) m (a.put g.p.o.dst (af σ' v)):=by
 have hsz:(a.put g.p.o.dst (af σ' v)).tmps.size=a.tmps.size:=by cases g.p.o.dst<;>simp[Act.put]
 have hdf:(a.put g.p.o.dst (af σ' v)).defers=a.defers:=by cases g.p.o.dst<;>rfl
 refine⟨by rw[hsz];exact T.size,fun k u hu=>?_,?_,fun d hd=>hV d (T.dv d hd)⟩
 ·by_cases hk:g.p.o.dst=some k∧k<m.nt
  ·obtain⟨e,hk⟩:=hk
   have:=hh k e hk
   rw[hu]at this
   cases this
   refine .inr ⟨hv,?_⟩
   rw[e]
   simp only[Act.put]
   rw[Array.getElem?_setIfInBounds,if_pos rfl,if_pos (by rw[T.size];exact hk)]
  ·rcases T.cell k u hu with⟨g',hg,hd,hlt⟩|⟨h1,h2⟩
   ·rcases List.mem_append.1 hg with hg|hg
    ·exact .inl ⟨g',by simp[hg],hd,hlt⟩
    ·rcases List.mem_cons.1 hg with rfl|hg
     ·exact absurd ⟨hd,hlt⟩ hk
     ·exact .inl ⟨g',by simp[hg],hd,hlt⟩
   ·refine .inr ⟨Dh hag hV _ h1,?_⟩
    rw[uU hag _ h1,←h2]
    cases hd:g.p.o.dst with
    |none=>rfl
    |some d=>
     simp only[Act.put]
     by_cases e:d=k
     ·subst e
      rw[Array.getElem?_setIfInBounds,if_pos rfl,if_neg (by rw[T.size];exact fun hk'=>hk ⟨hd,hk'⟩),Array.getElem?_eq_none (by rw[T.size];exact Nat.le_of_not_lt (fun hk'=>hk ⟨hd,hk'⟩))]
     ·exact Array.getElem?_setIfInBounds_ne e
 ·rw[hdf,T.df]
  exact List.map_congr_left fun d hd=>by simp only[yA,hag d (T.dv d hd)]
end
end Go.aY
namespace Go.aY
variable [O:dO]
open Go.RowKit
omit O in
theorem Dy{l:Array Bool}{i:Nat}:l.getD i true=false↔l[i]?=some false:=by
 rw[Array.getD_eq_getD_getElem?]
 cases h:l[i]? with
 |none=>simp
 |some b=>simp
omit O in
theorem Gp{l:Array Bool}{i:Nat}:l.getD i false=true↔l[i]?=some true:=by
 rw[Array.getD_eq_getD_getElem?]
 cases h:l[i]? with
 |none=>simp
 |some b=>simp
omit O in
theorem apc{l:Array Bool}{i:Nat}(h:l.getD i true=false)(h':l.getD i false=true):False:=by
 rw[Dy]at h;rw[Gp]at h';rw[h]at h';cases h'
omit O in
theorem apd{l:Array Bool}{i j:Nat}:(l.setIfInBounds i true).getD j true=false↔j≠i∧l.getD j true=false:=by
 rw[Dy,Dy,Array.getElem?_setIfInBounds]
 by_cases e:i=j
 ·subst e
  rw[if_pos rfl]
  split<;>simp
 ·rw[if_neg e]
  exact⟨fun h=>⟨Ne.symm e,h⟩,fun h=>h.2⟩
omit O in
theorem aaD{l:Array Bool}{i j:Nat}(h:l.getD j false=true):(l.setIfInBounds i true).getD j false=true:=by
 rw[Gp]at h ⊢
 rw[Array.getElem?_setIfInBounds]
 split
 ·rename_i e;subst e
  rw[if_pos (Array.getElem?_eq_some_iff.1 h).1]
 ·exact h
omit O in
theorem ape{l:Array Bool}{i j:Nat}(h:(l.setIfInBounds i true).getD j false=true):j=i∨l.getD j false=true:=by
 rw[Gp]at h ⊢
 rw[Array.getElem?_setIfInBounds]at h
 split at h
 ·rename_i e;exact .inl e.symm
 ·exact .inr h
omit O in
theorem Down.step{ops:Array Oper}{l:Array Bool}(hd:Down ops l){i:Nat}(hr:i∈Region.ready .any ops l):Down ops (l.setIfInBounds i true):=by
 intro k o ho hk e he hb
 rcases ape hk with rfl|hk
 ·obtain⟨-,o',ho',hall⟩:=mem_ready.1 hr
  rw[ho]at ho';cases ho'
  exact aaD (hall e he hb)
 ·exact aaD (hd k o ho hk e he hb)
omit O in
theorem aaE{A C:List PE}{p:PE}{l:Array Bool}(nd:((A++p::C).map (·.i)).Nodup)(mem:∀i,i∈(A++p::C).map (·.i)↔l.getD i true=false) :
  ∀i,i∈(A++C).map (·.i)↔(l.setIfInBounds p.i true).getD i true=false:=by
 intro i
 rw[apd,←mem i]
 simp only[List.map_append,List.map_cons,List.mem_append,List.mem_cons]
 rw[List.map_append,List.map_cons,List.nodup_append,List.nodup_cons]at nd
 obtain⟨-,⟨n1,-⟩,n2⟩:=nd
 constructor
 ·rintro(h|h)
  ·exact⟨fun e=>n2 i h p.i (List.mem_cons_self ..) e,.inl h⟩
  ·exact⟨fun e=>n1 (e▸h),.inr (.inr h)⟩
 ·rintro⟨hne,h|h|h⟩
  ·exact .inl h
  ·exact absurd h hne
  ·exact .inr h
section
variable {E:Env} {P:Program} {B:Nat→Prop} {W0:World} {go:Task→MH→Option (MV×MH)} {ops:Array Oper} {n0:Nat}
omit O in
theorem aaF(p:PE)(l:List PE)(fl:List FL)(a:MA)(h:MH):lG E go ops (p::l) fl a h =
  (match mD ops a p.o with
  |some true=>(Bool.rec
    (match mF go h (eY E (a.eval E.G) p.o.op h)with
     |some (v,h')=>(Bool.rec none (lG E go ops l (uP p.pre fl) (a.put p.o.dst v) h') (wG E ((a.put p.o.dst v).eval E.G) h' p.pre fl):Option (MA×MH))
     |none=>none)
    (match eY E (a.eval E.G) p.o.op h with
     |some (.val v)=>lG E go ops l (⟨p,.look v⟩::fl) (a.put p.o.dst v) h
     |some (.new k b)=>(Bool.rec none (lG E go ops l (⟨p,.oJ h.nx k b⟩::fl) (a.put p.o.dst (k.at h.nx)) (h.new b)) (wG E ((a.put p.o.dst (k.at h.nx)).eval E.G) (h.new b) 0 fl):Option (MA×MH))
     |_=>none)
    (floats p.o):Option (MA×MH))
  |some false=>(Bool.rec (lG E go ops l (uP p.pre fl) (a.put p.o.dst jM) h) (lG E go ops l (⟨p,.skip⟩::fl) (a.put p.o.dst jM) h) (floats p.o):Option (MA×MH))
  |none=>none):=rfl
structure Inv(E:Env)(B:Nat→Prop)(W0:World)(ops:Array Oper)(n0:Nat)(σ:Sg)(V:Nat→Prop)(h:MH)(w:World)(m:MA)(a:Act)(Gs fl:List FL)(L:List PE)(listed:Array Bool):Prop where
 R:Rel E.G B W0 σ V h w
 tm:oM σ V Gs m a
 gh:∀g∈Gs,Dw E ops V n0 m h g
 sub:∀g∈Gs,g∈fl
 self:∀p∈Gs.map (·.p)++L,Rl ops p
 sep:(Gs.map (·.p)++L).Pairwise (fun p q=>zS ops p q=true)
 nd:((Gs.map (·.p)++L).map (·.i)).Nodup
 mem:∀i,i∈(Gs.map (·.p)++L).map (·.i)↔listed.getD i true=false
 el:∀p∈Gs.map (·.p)++L,ops[p.i]?=some p.o∧Gl ops p.pre p.o
 down:Down ops listed
 ids:Gs.Pairwise (fun g g'=>∀id k b id' k' b',g.r=.oJ id k b→g'.r=.oJ id' k' b'→id≠id')
 nx:n0≤h.nx
variable {σ:Sg} {V:Nat→Prop} {h:MH} {w:World} {m:MA} {a:Act} {Gs fl:List FL} {L:List PE} {listed:Array Bool}
theorem Inv.Gq(I:Inv E B W0 ops n0 σ V h w m a Gs fl L listed){q p:PE}(hq:q∈Gs.map (·.p)++L)(hr:q.i∈Region.ready .any ops listed)(hp:p∈Gs.map (·.p)++L):q.pre.testBit p.i=false:=by
 cases hb:q.pre.testBit p.i with
 |false=>rfl
 |true=>
  obtain⟨ho,hw⟩:=I.el q hq
  obtain⟨-,o',ho',hall⟩:=mem_ready.1 hr
  rw[ho]at ho';cases ho'
  exact(apc ((I.mem p.i).1 (List.mem_map.2 ⟨p,hp,rfl⟩)) (hw listed I.down hall p.i hb)).elim
omit O in
theorem pairs{α:Type}{R:α→α→Prop}{A C:List α}{x:α}(h:(A++x::C).Pairwise R):(∀y∈A,R y x)∧(∀y∈C,R x y):=by
 rw[List.pairwise_append,List.pairwise_cons]at h
 exact⟨fun y hy=>h.2.2 y hy x (List.mem_cons_self ..),h.2.1.1⟩
theorem Inv.float{q:PE}(I:Inv E B W0 ops n0 σ V h w m a Gs fl (q::L) listed)(hf:floats q.o=true){o:Option (MA×MH)}(hr:lG E go ops (q::L) fl m h=o)(ho:o.isSome=true) :
  ∃g m1 h1,Inv E B W0 ops n0 σ V h1 w m1 a (Gs++[g]) (g::fl) L listed∧g.p=q∧lG E go ops L (g::fl) m1 h1=o:=by
 have apf:=(pairs I.sep).1
 have hold:∀g∈Gs,kR q.o.dst (g.p.o.looksAt ops)=false∧yf g.p.o.dst q.o.dst=false:=fun g hg=>by
  obtain⟨h1,h2,-⟩:=aax (apf g.p (List.mem_map.2 ⟨g,hg,rfl⟩)) hf
  exact⟨h1,h2⟩
 have hself:=(I.self q (by simp)).2.1
 have build:∀(g:FL) (v:MV) (h1:MH),g.p=q→Rel E.G B W0 σ V h1 w→h.nx≤h1.nx→(∀g'∈Gs,Still E ((m.put q.o.dst v).eval E.G) h1 g')→Dw E ops V n0 (m.put q.o.dst v) h1 g→
   (∀id k b,g.r=.oJ id k b→id=h.nx)→Inv E B W0 ops n0 σ V h1 w (m.put q.o.dst v) a (Gs++[g]) (g::fl) L listed:=by
  intro g v h1 KW R1 hnx hst hg hid
  have e:(Gs++[g]).map (·.p)++L=Gs.map (·.p)++q::L:=by simp[KW]
  refine⟨R1,by rw[←KW];exact I.tm.ahead g v,fun g' hg'=>?_,fun g' hg'=>?_,by rw[e];exact I.self,by rw[e];exact I.sep,by rw[e];exact I.nd,by rw[e];exact I.mem,by rw[e];exact I.el,I.down,?_,Nat.le_trans I.nx hnx⟩
  ·rcases List.mem_append.1 hg' with hg'|hg'
   ·exact(I.gh g' hg').put (hold g' hg').1 (hold g' hg').2 (hst g' hg') (fun _ hv=>.inl hv) hnx
   ·rw[List.mem_singleton]at hg';subst hg';exact hg
  ·rcases List.mem_append.1 hg' with hg'|hg'
   ·exact List.mem_cons_of_mem _ (I.sub g' hg')
   ·rw[List.mem_singleton]at hg';subst hg';exact List.mem_cons_self ..
  ·rw[List.pairwise_append]
   refine⟨I.ids,List.pairwise_singleton _ _,fun g' hg' g2 hg2 id k b id' k' b' e1 e2=>?_⟩
   rw[List.mem_singleton]at hg2;subst hg2
   rw[hid id' k' b' e2]
   obtain⟨-,-,-,-,h5,-⟩:=(I.gh g' hg').al id k b e1
   exact Nat.ne_of_lt h5
 have keep:∀v,∀g'∈Gs,Still E ((m.put q.o.dst v).eval E.G) h g':=fun v g' hg'=>by
  unfold Still
  cases hr':g'.r with
  |skip=>trivial
  |look u=>dsimp only;rw[Gn m v h (hold g' hg').1];exact((I.gh g' hg').lk u hr').2.1
  |oJ id k b=>exact((I.gh g' hg').al id k b hr').2.2.2.2.2.2.2
 rw[aaF,hf]at hr
 cases hw:mD ops m q.o with
 |none=>simp only[hw]at hr;rw[←hr]at ho;cases ho
 |some b=>
  cases b with
  |false=>
   simp only[hw]at hr
   refine⟨⟨q,.skip⟩,_,h,build ⟨q,.skip⟩ jM h rfl I.R (Nat.le_refl _) (keep _) ⟨hf,fun _=>⟨?_,Ro m _ _⟩,fun v e=>(by cases e),fun id k b e=>(by cases e)⟩ (fun id k b e=>by cases e),rfl,hr⟩
   rw[Dv m _ hself];exact hw
  |true=>
   simp only[hw]at hr
   split at hr
   ·rename_i v hv
    refine⟨⟨q,.look v⟩,_,h,build ⟨q,.look v⟩ v h rfl I.R (Nat.le_refl _) (keep _) ⟨hf,fun e=>(by cases e),fun u e=>?_,fun id k b e=>(by cases e)⟩ (fun id k b e=>by cases e),rfl,hr⟩
    cases e
    exact⟨by rw[Dv m _ hself];exact hw,by rw[Gn m v h hself];exact hv,Ro m _ _⟩
   ·rename_i k b hv
    cases hal:wG E ((m.put q.o.dst (k.at h.nx)).eval E.G) (h.new b) 0 fl with
    |false=>rw[hal]at hr;rw[←hr]at ho;cases ho
    |true=>
     rw[hal]at hr
     refine⟨⟨q,.oJ h.nx k b⟩,_,h.new b,build ⟨q,.oJ h.nx k b⟩ (k.at h.nx) (h.new b) rfl (I.R.ghost b) (Nat.le_succ _)
      (fun g' hg'=>aaB (aaC hal g' (I.sub g' hg')) (Nat.zero_testBit _)) ⟨hf,fun e=>(by cases e),fun u e=>(by cases e),fun id k' b' e=>?_⟩ (fun id k b e=>by cases e;rfl),rfl,hr⟩
     cases e
     refine⟨by rw[Dv m _ hself];exact hw,by rw[Gn m _ _ hself];exact aau _ hv,Ro m _ _,fun hv=>Nat.lt_irrefl _ (I.R.vx _ hv),Nat.lt_succ_self _,I.R.gx,I.nx,?_⟩
     rw[MH.zW,if_pos rfl]
   ·rw[←hr]at ho;cases ho
end
end Go.aY
namespace Go.aY
variable [O:dO]
open Go.RowKit
section
variable {E:Env} {P:Program} {B:Nat→Prop} {W0:World} {go:Task→MH→Option (MV×MH)} {ops:Array Oper} {n0:Nat}
variable {σ:Sg} {V:Nat→Prop} {h:MH} {w:World} {m:MA} {a:Act} {Gs fl:List FL} {L:List PE} {listed:Array Bool}
omit O in
theorem aaG{o:Oper}(h:zT o=true):∀c,o.op≠.defer c:=by
 intro c e
 simp[zT,e]at h
theorem Inv.ghost(hE:bM E P)(hW:∀k,B k→k<W0.heap.size)(r:Option Nat){g:FL}(I:Inv E B W0 ops n0 σ V h w m a Gs fl L listed)(hg:g∈Gs)(hr:g.p.i∈Region.ready .any ops listed)
  {K:Act→World→Prop} {Q:Exit→Act→World→Prop}
  (hK:∀σ' V' w' a' sV,Inv E B W0 ops n0 σ' V' h w' m a' sV fl L (listed.setIfInBounds g.p.i true)→(sV.map (·.p)++L).length+1=(Gs.map (·.p)++L).length→
   dI V σ σ'→(∀id,V id→V' id)→(∀id,V' id→V id∨n0≤id)→K a' w'):wpOpIn (fence r) 0 P ops Q g.p.i K a w:=by
 obtain⟨G1,G2,hG⟩:=List.append_of_mem hg
 subst hG
 have KX:g.p∈(G1++g::G2).map (·.p)++L:=List.mem_append_left _ (List.mem_map.2 ⟨g,hg,rfl⟩)
 have Gt:∀g'∈G1++g::G2,g'.p∈(G1++g::G2).map (·.p)++L:=fun g' hg'=>List.mem_append_left _ (List.mem_map.2 ⟨g',hg',rfl⟩)
 have hel:=(I.el g.p KX).1
 have Rt:=I.gh g hg
 have hsep:=I.sep
 have aaH:(G1++g::G2).map (·.p)++L=G1.map (·.p)++g.p::(G2.map (·.p)++L):=by simp
 rw[aaH]at hsep
 obtain⟨sA,sC⟩:=pairs hsep
 have hlook:∀g'∈G1++g::G2,kR g'.p.o.dst (g.p.o.looksAt ops)=false:=by
  intro g' hg'
  have hnw:=I.Gq KX hr (Gt g' hg')
  rcases List.mem_append.1 hg' with h1|h1
  ·exact(Rn (sA g'.p (List.mem_map.2 ⟨g',h1,rfl⟩)) hnw).2.2.2
  ·rcases List.mem_cons.1 h1 with rfl|h1
   ·exact(I.self _ KX).2.1
   ·exact(aax (sC g'.p (List.mem_append_left _ (List.mem_map.2 ⟨g',h1,rfl⟩))) (I.gh g' hg').fl).1
 have hev:=I.tm.Dp I.R hlook
 have hnd:=aaG (I.self _ KX).1
 have e1:(G1++G2).map (·.p)++L=G1.map (·.p)++(G2.map (·.p)++L):=by simp
 have build:∀(σ':Sg) (V':Nat→Prop) (w':World) (v:MV),Rel E.G B W0 σ' V' h w'→dI V σ σ'→(∀id,V id→V' id)→wf σ' V' v→Has m g.p.o.dst v→
   (∀g'∈G1++G2,Dw E ops V' n0 m h g')→Inv E B W0 ops n0 σ' V' h w' m (a.put g.p.o.dst (af σ' v)) (G1++G2) fl L (listed.setIfInBounds g.p.i true):=by
  intro σ' V' w' v R' hag hV hv hh hgh
  have hsub:(G1.map (·.p)++(G2.map (·.p)++L)).Sublist (G1.map (·.p)++g.p::(G2.map (·.p)++L)):=List.Sublist.append_left (List.sublist_cons_self _ _) _
  have apg:∀x∈G1++G2,x∈G1++g::G2:=fun x hx=>by
   rcases List.mem_append.1 hx with h1|h1
   ·exact List.mem_append_left _ h1
   ·exact List.mem_append_right _ (List.mem_cons_of_mem _ h1)
  have Isf:=I.self
  have Ru:=I.nd
  have aaJ:=I.mem
  have Iel:=I.el
  rw[aaH]at Isf Ru aaJ Iel
  refine⟨R',I.tm.catch hag hV hv hh,hgh,fun g' hg'=>I.sub g' (apg g' hg'),?_,?_,?_,?_,?_,I.down.step hr,?_,I.nx⟩
  ·rw[e1];exact fun p hp=>Isf p (hsub.subset hp)
  ·rw[e1];exact hsep.sublist hsub
  ·rw[e1];exact Ru.sublist (hsub.map _)
  ·rw[e1];exact aaE Ru aaJ
  ·rw[e1];exact fun p hp=>Iel p (hsub.subset hp)
  ·exact I.ids.sublist (List.Sublist.append_left (List.sublist_cons_self _ _) _)
 have hlen:((G1++G2).map (·.p)++L).length+1=((G1++g::G2).map (·.p)++L).length:=by simp;omega
 have Rw:∀g'∈G1++G2,g'∈G1++g::G2:=fun x hx=>by
  rcases List.mem_append.1 hx with h1|h1
  ·exact List.mem_append_left _ h1
  ·exact List.mem_append_right _ (List.mem_cons_of_mem _ h1)
 unfold wpOpIn
 simp only[hel]
 cases hres:g.r with
 |skip=>
  obtain⟨h1,h2⟩:=Rt.sk hres
  have hw:=I.tm.wanted hlook h1
  rw[if_neg (by rw[hw];exact Bool.false_ne_true)]
  refine⟨fun f _=>yB r f,?_⟩
  exact hK σ V w _ (G1++G2) (build σ V w jM I.R (dI.refl _ _) (fun _ hx=>hx) Ad h2 (fun g' hg'=>I.gh g' (Rw g' hg'))) hlen (dI.refl _ _) (fun _ hx=>hx) (fun _ hx=>.inl hx)
 |look v=>
  obtain⟨h1,h2,h3⟩:=Rt.lk v hres
  have hw:=I.tm.wanted hlook h1
  rw[if_pos hw]
  rw[←Rq (ops:=ops)]at h2
  obtain⟨k1,k2⟩:=look_ok hE I.R hev g.p.o h2
  unfold Oper.wpIn
  refine⟨fun f _=>yB r f,?_⟩
  rw[Oper.semAt_eq _ _ _ hnd,k2,Oper.uponIn_value]
  exact hK σ V w _ (G1++G2) (build σ V w v I.R (dI.refl _ _) (fun _ hx=>hx) k1 h3 (fun g' hg'=>I.gh g' (Rw g' hg'))) hlen (dI.refl _ _) (fun _ hx=>hx) (fun _ hx=>.inl hx)
 |oJ id k b=>
  obtain⟨h1,h2,h3,h4,h5,h6,h7,h8⟩:=Rt.al id k b hres
  have hw:=I.tm.wanted hlook h1
  rw[if_pos hw]
  rw[←Rq (ops:=ops)]at h2
  obtain⟨obj,k1,k2,k3⟩:=QV hE hev g.p.o h2 h4 w
  unfold Oper.wpIn
  refine⟨fun f _=>yB r f,?_⟩
  rw[Oper.semAt_eq _ _ _ hnd,k1,Oper.uponIn_value]
  have hag:=qJ (V:=V) σ ⟨w.heap.size,0,0⟩ h4
  refine hK _ _ _ _ (G1++G2) (build _ _ _ (k.at id) (I.R.ZP (I.R.size hW) h4 h8 h6 0 0 k2) hag (fun _ hx=>.inl hx) k3 h3 (fun g' hg'=>?_)) hlen hag (fun _ hx=>.inl hx) (fun id' hx=>hx.imp (fun x=>x) (fun(e:id'=id)=>by rw[e];exact h7))
  have hg0:=I.gh g' (Rw g' hg')
  refine⟨hg0.fl,hg0.sk,hg0.lk,fun id' k' b' e=>?_⟩
  obtain⟨q1,q2,q3,q4,q5,q6,q7,q8⟩:=hg0.al id' k' b' e
  refine⟨q1,q2,q3,fun hv=>?_,q5,q6,q7,q8⟩
  rcases hv with hv|hv
  ·exact q4 hv
  ·obtain⟨i1,i2⟩:=List.pairwise_append.1 I.ids |>.2
   have i0:=(List.pairwise_append.1 I.ids).2.1
   rcases List.mem_append.1 hg' with hx|hx
   ·exact(List.pairwise_append.1 I.ids).2.2 g' hx g (List.mem_cons_self ..) id' k' b' id k b e hres hv
   ·exact(List.pairwise_cons.1 i0).1 g' hx id k b id' k' b' hres e hv.symm
theorem Inv.act(hE:bM E P)(hW:∀k,B k→k<W0.heap.size)(hgo:pM E P B W0 go)(r:Option Nat){q:PE}(I:Inv E B W0 ops n0 σ V h w m a Gs fl (q::L) listed)(hf:floats q.o=false)
  (hr:q.i∈Region.ready .any ops listed) {o:MA×MH} (hrun:lG E go ops (q::L) fl m h=some o) {K:Act→World→Prop} {Q:Exit→Act→World→Prop}
  (hK:∀σ' V' h' w' m' a' wL,Inv E B W0 ops n0 σ' V' h' w' m' a' Gs wL L (listed.setIfInBounds q.i true)→lG E go ops L wL m' h'=some o→
   dI V σ σ'→(∀id,V id→V' id)→(∀id,V' id→V id∨n0≤id)→K a' w'):wpOpIn (fence r) 0 P ops Q q.i K a w:=by
 have xK:q∈Gs.map (·.p)++q::L:=List.mem_append_right _ (List.mem_cons_self ..)
 have Gt:∀g'∈Gs,g'.p∈Gs.map (·.p)++q::L:=fun g' hg'=>List.mem_append_left _ (List.mem_map.2 ⟨g',hg',rfl⟩)
 have hel:=(I.el q xK).1
 obtain⟨sA,sC⟩:=pairs I.sep
 have hfree:∀g'∈Gs,_:=fun g' hg'=>Rn (sA g'.p (List.mem_map.2 ⟨g',hg',rfl⟩)) (I.Gq xK hr (Gt g' hg'))
 have hlook:∀g'∈Gs,kR g'.p.o.dst (q.o.looksAt ops)=false:=fun g' hg'=>(hfree g' hg').2.2.2
 have hev:=I.tm.Dp I.R hlook
 have hnd:=aaG (I.self _ xK).1
 have hsub:(Gs.map (·.p)++L).Sublist (Gs.map (·.p)++q::L):=List.Sublist.append_left (List.sublist_cons_self _ _) _
 have hkeep:∀g∈Gs,g∈uP q.pre fl:=fun g hg=>apa (I.sub g hg) (I.Gq xK hr (Gt g hg))
 have build:∀(σ':Sg) (V':Nat→Prop) (h':MH) (w':World) (v:MV),Rel E.G B W0 σ' V' h' w'→dI V σ σ'→(∀id,V id→V' id)→(∀id,V' id→V id∨h.nx≤id)→h.nx≤h'.nx→wf σ' V' v→
   (∀g∈Gs,Still E ((m.put q.o.dst v).eval E.G) h' g)→Inv E B W0 ops n0 σ' V' h' w' (m.put q.o.dst v) (a.put q.o.dst (af σ' v)) Gs (uP q.pre fl) L (listed.setIfInBounds q.i true):=by
  intro σ' V' h' w' v R' hag hV hV' hnx hv hst
  exact⟨R',I.tm.both hag hV q.o.dst hv,fun g hg=>(I.gh g hg).put (hfree g hg).1 (hfree g hg).2.1 (hst g hg) hV' hnx,hkeep,fun p hp=>I.self p (hsub.subset hp),I.sep.sublist hsub,
   I.nd.sublist (hsub.map _),aaE I.nd I.mem,fun p hp=>I.el p (hsub.subset hp),I.down.step hr,I.ids,Nat.le_trans I.nx hnx⟩
 rw[aaF,hf]at hrun
 unfold wpOpIn
 simp only[hel]
 cases hw:mD ops m q.o with
 |none=>simp only[hw]at hrun;cases hrun
 |some b=>
  have hw':=I.tm.wanted hlook hw
  cases b with
  |false=>
   simp only[hw]at hrun
   rw[if_neg (by rw[hw'];exact Bool.false_ne_true)]
   refine⟨fun f _=>yB r f,?_⟩
   refine hK σ V h w _ _ _ (build σ V h w jM I.R (dI.refl _ _) (fun _ hx=>hx) (fun _ hx=>.inl hx) (Nat.le_refl _) Ad (fun g hg=>?_)) hrun (dI.refl _ _) (fun _ hx=>hx) (fun _ hx=>.inl hx)
   unfold Still
   cases hr':g.r with
   |skip=>trivial
   |look u=>dsimp only;rw[Gn m _ h (hfree g hg).1];exact((I.gh g hg).lk u hr').2.1
   |oJ id k b=>exact((I.gh g hg).al id k b hr').2.2.2.2.2.2.2
  |true=>
   simp only[hw]at hrun
   rw[if_pos hw']
   split at hrun
   ·rename_i v h1 ho
    cases hal:wG E ((m.put q.o.dst v).eval E.G) h1 q.pre fl with
    |false=>rw[hal]at hrun;cases hrun
    |true=>
     rw[hal]at hrun
     rw[←Rq (ops:=ops)]at ho
     refine apb hE hW hgo r hnd I.R hev ho ?_
     intro σ' V' w' g1 g2 g3 g4 g5 g6
     refine hK σ' V' h1 w' _ _ _ (build σ' V' h1 w' v g5 g1 g2 g3 g4 g6 (fun g hg=>aaB (aaC hal g (I.sub g hg)) (I.Gq xK hr (Gt g hg)))) hrun g1 g2 (fun id hid=>?_)
     exact(g3 id hid).imp (fun x=>x) (fun x=>Nat.le_trans I.nx x)
   ·cases hrun
theorem Inv.aph(I:Inv E B W0 ops n0 σ V h w m a Gs fl L listed):∀(n:Nat) (p:PE),p∈Gs.map (·.p)++L→p.i=n→∃i,i∈Region.ready .any ops listed:=by
 intro n
 induction n using Nat.strongRecOn with
 |ind n ih=>
  intro p hp hn
  have hun:=(I.mem p.i).1 (List.mem_map.2 ⟨p,hp,rfl⟩)
  by_cases hall:∀e∈p.o.after,Region.binds .any e=true→listed.getD e.on false=true
  ·exact⟨p.i,mem_ready.2 ⟨hun,p.o,(I.el p hp).1,hall⟩⟩
  ·have⟨e,he,hb,hl⟩:∃e∈p.o.after,Region.binds .any e=true∧¬listed.getD e.on false=true:=by
    refine Classical.byContradiction fun hc=>hall fun e he hb=>Classical.byContradiction fun hl=>hc ⟨e,he,hb,hl⟩
   have hlt:e.on<p.i:=by
    have h1:=(I.self p hp).2.2
    simp only[Qq,List.all_eq_true]at h1
    have h2:=h1 e (by simpa using he)
    rw[hb]at h2
    exact sS (by simpa using h2)
   have hsz:p.i<listed.size:=(Array.getElem?_eq_some_iff.1 (Dy.1 hun)).1
   have api:listed.getD e.on true=false:=by
    rw[Dy]
    rw[Gp]at hl
    have:e.on<listed.size:=Nat.lt_trans hlt hsz
    rw[Array.getElem?_eq_getElem this]at hl ⊢
    cases hx:listed[e.on]with
    |false=>rfl
    |true=>rw[hx]at hl;exact absurd rfl hl
   obtain⟨p',hp',he'⟩:=List.mem_map.1 ((I.mem e.on).2 api)
   exact ih e.on (by omega) p' hp' he'
theorem Inv.pick(hE:bM E P)(hW:∀k,B k→k<W0.heap.size)(hgo:pM E P B W0 go)(r:Option Nat){o:MA×MH}{Q:Exit→Act→World→Prop}{K:Act→World→Prop}{p:PE}(hr:p.i∈Region.ready .any ops listed) :
  ∀(L:List PE) (h:MH) (m:MA) (Gs fl:List FL),Inv E B W0 ops n0 σ V h w m a Gs fl L listed→p∈Gs.map (·.p)++L→lG E go ops L fl m h=some o→
   (∀σ' V' h' w' m' a' sV wL L',Inv E B W0 ops n0 σ' V' h' w' m' a' sV wL L' (listed.setIfInBounds p.i true)→(sV.map (·.p)++L').length+1=(Gs.map (·.p)++L).length→lG E go ops L' wL m' h'=some o→
    dI V σ σ'→(∀id,V id→V' id)→(∀id,V' id→V id∨n0≤id)→K a' w')→wpOpIn (fence r) 0 P ops Q p.i K a w:=by
 intro L
 induction L with
 |nil=>
  intro h m Gs fl I hp hrun hK
  rw[List.append_nil]at hp
  obtain⟨g,hg,rfl⟩:=List.mem_map.1 hp
  exact I.ghost hE hW r hg hr (fun σ' V' w' a' sV I' hlen g1 g2 g3=>hK σ' V' h w' m a' sV fl [] I' hlen hrun g1 g2 g3)
 |cons q L ih=>
  intro h m Gs fl I hp hrun hK
  have apj:p∈Gs.map (·.p)→wpOpIn (fence r) 0 P ops Q p.i K a w:=fun Rx=>by
   obtain⟨g,hg,rfl⟩:=List.mem_map.1 Rx
   exact I.ghost hE hW r hg hr (fun σ' V' w' a' sV I' hlen g1 g2 g3=>hK σ' V' h w' m a' sV fl (q::L) I' hlen hrun g1 g2 g3)
  rcases List.mem_append.1 hp with Rx|hpL
  ·exact apj Rx
  ·cases hf:floats q.o with
   |true=>
    obtain⟨g,m1,h1,I1,KW,hrun1⟩:=I.float hf hrun rfl
    have e:(Gs++[g]).map (·.p)++L=Gs.map (·.p)++q::L:=by simp[KW]
    refine ih h1 m1 (Gs++[g]) (g::fl) I1 (by rw[e];exact hp) hrun1 ?_
    rw[e]
    exact hK
   |false=>
    have hpq:p=q:=by
     rcases List.mem_cons.1 hpL with e|apk
     ·exact e
     ·have hs:=(pairs I.sep).2 p apk
      have:=(Rn hs (I.Gq hp hr (List.mem_append_right _ (List.mem_cons_self ..)))).2.2.1
      rw[hf]at this;cases this
    subst hpq
    refine I.act hE hW hgo r hf hr hrun (fun σ' V' h' w' m' a' wL I' hrun' g1 g2 g3=>hK σ' V' h' w' m' a' Gs wL L I' ?_ hrun' g1 g2 g3)
    simp;omega
theorem Inv.any(hE:bM E P)(hW:∀k,B k→k<W0.heap.size)(hgo:pM E P B W0 go)(r:Option Nat){m':MA}{h':MH}{Q:Exit→Act→World→Prop} :
  ∀(fuel:Nat) (σ:Sg) (V:Nat→Prop) (h:MH) (w:World) (m:MA) (a:Act) (Gs fl:List FL) (L:List PE) (listed:Array Bool),Inv E B W0 ops n0 σ V h w m a Gs fl L listed→
   (Gs.map (·.p)++L).length=fuel→lG E go ops L fl m h=some (m',h')→
   (∀σ' V' w' a',dI V σ σ'→(∀id,V id→V' id)→(∀id,V' id→V id∨n0≤id)→n0≤h'.nx→Rel E.G B W0 σ' V' h' w'→dw σ' V' m' a'→Q .normal a' w')→
   wpAnyIn (fence r) 0 P .any ops Q fuel listed a w:=by
 intro fuel
 have done:∀(σ:Sg) (V:Nat→Prop) (h:MH) (w:World) (m:MA) (a:Act) (Gs fl:List FL) (L:List PE) (listed:Array Bool),Inv E B W0 ops n0 σ V h w m a Gs fl L listed→
   Gs.map (·.p)++L=[]→lG E go ops L fl m h=some (m',h')→
   (∀σ' V' w' a',dI V σ σ'→(∀id,V id→V' id)→(∀id,V' id→V id∨n0≤id)→n0≤h'.nx→Rel E.G B W0 σ' V' h' w'→dw σ' V' m' a'→Q .normal a' w')→Q .normal a w:=by
  intro σ V h w m a Gs fl L listed I he hrun hQ
  obtain⟨e1,e2⟩:=List.append_eq_nil_iff.1 he
  have e1:=List.map_eq_nil_iff.1 e1
  subst e1;subst e2
  have e:lG E go ops [] fl m h=some (m,h):=rfl
  rw[e]at hrun;cases hrun
  refine hQ σ V w a (dI.refl _ _) (fun _ hx=>hx) (fun _ hx=>.inl hx) I.nx I.R ⟨⟨I.tm.size,fun k v hk=>?_⟩,I.tm.df,I.tm.dv⟩
  rcases I.tm.cell k v hk with⟨g,hg,-⟩|hx
  ·cases hg
  ·exact hx
 have apl:∀(σ:Sg) (V:Nat→Prop) (h:MH) (w:World) (m:MA) (a:Act) (Gs fl:List FL) (L:List PE) (listed:Array Bool),Inv E B W0 ops n0 σ V h w m a Gs fl L listed→
   Region.ready .any ops listed=[]→Gs.map (·.p)++L=[]:=by
  intro σ V h w m a Gs fl L listed I hr
  cases hl:Gs.map (·.p)++L with
  |nil=>rfl
  |cons p l=>
   obtain⟨i,hi⟩:=I.aph p.i p (by rw[hl];exact List.mem_cons_self ..) rfl
   rw[hr]at hi;cases hi
 induction fuel with
 |zero=>
  intro σ V h w m a Gs fl L listed I hlen hrun hQ
  have he:=List.eq_nil_of_length_eq_zero hlen
  refine⟨?_,done σ V h w m a Gs fl L listed I he hrun hQ⟩
  cases hr:Region.ready .any ops listed with
  |nil=>rfl
  |cons i l=>
   have hi:i∈Region.ready .any ops listed:=by rw[hr];exact List.mem_cons_self ..
   have:=(I.mem i).2 (mem_ready.1 hi).1
   rw[he]at this;cases this
 |succ fuel ih=>
  intro σ V h w m a Gs fl L listed I hlen hrun hQ
  refine⟨fun hr=>done σ V h w m a Gs fl L listed I (apl σ V h w m a Gs fl L listed I hr) hrun hQ,fun i hi=>?_⟩
  obtain⟨p,hp,rfl⟩:=List.mem_map.1 ((I.mem i).2 (mem_ready.1 hi).1)
  refine Inv.pick hE hW hgo r hi L h m Gs fl I hp hrun ?_
  intro σ' V' h1 w' m1 a' sV wL L' I' hlen' hrun' g1 g2 g3
  refine ih σ' V' h1 w' m1 a' sV wL L' _ I' (by omega) hrun' ?_
  intro σ2 V2 w2 a2 k1 k2 k3 k4 k5 k6
  refine hQ σ2 V2 w2 a2 (g1.trans g2 k1) (fun id hid=>k2 id (g2 id hid)) (fun id hid=>?_) k4 k5 k6
  rcases k3 id hid with hx|hx
  ·exact g3 id hx
  ·exact .inr hx
theorem apm(hE:bM E P)(hW:∀k,B k→k<W0.heap.size){go:Task→MH→Option (MV×MH)}(hgo:pM E P B W0 go):Dt E P B W0 go:=by
 intro id ops l m m' h h' hp hrun σ V w a r R ha
 obtain⟨hidx,hel,hok⟩:=ao4 hp
 obtain⟨hself,hsep⟩:=(ao7 ops l).1 hok
 refine wpIn_region_any hE.mixed ?_
 have hun:∀i,(Array.replicate ops.size false).getD i true=false↔i<ops.size:=fun i=>by
  rw[Dy,Array.getElem?_replicate]
  split
  ·rename_i hi;exact⟨fun _=>hi,fun _=>rfl⟩
  ·rename_i hi;exact⟨fun hc=>(by cases hc),fun hc=>absurd hc hi⟩
 have hli:∀i,¬(Array.replicate ops.size false).getD i false=true:=fun i hi=>by
  rw[Gp,Array.getElem?_replicate]at hi
  split at hi<;>cases hi
 have I:Inv E B W0 ops h.nx σ V h w.drew m a [] [] l (Array.replicate ops.size false):=by
  refine⟨R.drew,⟨ha.tm.size,fun k v hk=>.inr (ha.tm.cell k v hk),ha.df,ha.dv⟩,fun g hg=>(by cases hg),fun g hg=>(by cases hg),hself,hsep,?_,fun i=>?_,hel,fun k o _ hk=>(hli k hk).elim,List.Pairwise.nil,Nat.le_refl _⟩
  ·exact hidx.nodup_iff.2 List.nodup_range
  ·rw[hun]
   show i∈l.map (·.i)↔_
   rw[hidx.mem_iff,List.mem_range]
 have hlen:(([]:List FL).map (·.p)++l).length=ops.size:=by
  have:=hidx.length_eq
  simpa using this
 refine Inv.any hE hW hgo r ops.size σ V h w.drew m a [] [] l _ I hlen hrun ?_
 intro σ' V' w' a' g1 g2 g3 g4 g5 g6
 exact⟨rfl,σ',V',g1,g2,g3,g4,g5,g6⟩
end
end Go.aY
namespace Go.aY
open Go.RowKit
def Ry:Option (MV×MH)→Bool
 |some (.bool b,_)=>b
 |_=>false
def start(G:GB)(t:Tr MB):MH:=⟨t,G.ro⟩
structure Rz[dO](G:GB)(t:Tr MB)(σ:Sg)(w:World):Prop where
 le:G.g0≤G.ro
 lt:∀id b,t.get id=some b→id<G.ro
 qI:∀id,id<G.g0→(σ id).blk=id∧(σ id).off=0
 blk:∀id b,t.get id=some b→jP σ (· < G.ro) id w b
 inj:∀id id' b b',t.get id=some b→t.get id'=some b'→live b=true→live b'=true→(σ id).blk=(σ id').blk→id=id'
theorem apo[dO]{G:GB}{B:Nat→Prop}{t:Tr MB}{σ:Sg}{w:World}(h:Rz G t σ w):Rel G B w σ (· < G.ro) (start G t) w:=
 ⟨fun id b _ hb=>h.blk id b hb,fun id id' b b' _ _ h1 h2=>h.inj id id' b b' h1 h2,fun id b _ hb _ hg=>absurd (h.lt id b hb) (Nat.not_lt.2 hg),fun id hid=>⟨Nat.lt_of_lt_of_le hid h.le,h.qI id hid⟩,fun id b hb=>h.lt id b hb,
  fun _ hid=>hid,Nat.le_refl _,Kept.refl _ _⟩
structure asl[dO](G:GB)(n:Nat)(B:Nat→Prop)(t:Tr MB)(σ:Sg)(w:World):Prop where
 le:G.g0≤n
 ro:G.ro≤n
 lt:∀id b,t.get id=some b→id<n
 qI:∀id,id<G.g0→(σ id).blk=id∧(σ id).off=0
 blk:∀id b,t.get id=some b→jP σ (· < n) id w b
 inj:∀id id' b b',t.get id=some b→t.get id'=some b'→live b=true→live b'=true→(σ id).blk=(σ id').blk→id=id'
 own:∀id b,t.get id=some b→live b=true→G.ro≤id→¬B (σ id).blk
theorem apq[dO]{E:Env}{P:Program}(hE:bM E P){w:World}(hO:KQ E P (· < w.heap.size) w){t:Tr MB}{σ:Sg}(hS:Rz E.G t σ w){n:Nat}{f:FuncId}{args:List MV}(hw:wfs σ (· < E.G.ro) args)(hr:Ry (run E n (.call f args) (start E.G t))=true) :
  Calls P f ⟨aH σ args⟩ w (fun e w'=>e=.returned (.bool true)∧Below w.heap.size w w'):=by
 unfold Ry at hr
 split at hr
 ·rename_i b h' he
  subst hr
  obtain⟨F,-,-,hc⟩:=(aoW (B:=(· < w.heap.size)) (W0:=w) hE hO (fun _ hk=>hk) (fun go hgo=>apm hE (fun _ hk=>hk) hgo) n).1 f args (start E.G t) _ _ he
  refine(hc _ _ w (apo hS) hw).mono ?_
  rintro e w' ⟨σ',V',-,-,-,-,R,-,rfl⟩
  exact⟨rfl,R.below.below⟩
 ·cases hr
theorem apr[dO]{G:GB}(h:G.g0≤G.ro)(w:World):Rz G .nil (fun id=>⟨id,0,0⟩) w:=by
 have hn:∀id b,(Tr.nil:Tr MB).get id=some b→False:=fun id b hb=>by
  have:(Tr.nil:Tr MB).get id=none:=Tr.get_nil id
  rw[this]at hb;cases hb
 exact⟨h,fun id b hb=>(hn id b hb).elim,fun id _=>⟨rfl,rfl⟩,fun id b hb=>(hn id b hb).elim,fun id _ b _ hb=>(hn id b hb).elim⟩
section
variable {α:Type}
noncomputable def Tr.jE:Tr α→List (Nat×α):=
 Tr.rec [] (fun _ a _ x y=>(match a with|some v=>[(0,v)]|none=>[])++(x.map (fun p=>(2*p.1+1,p.2))++y.map (fun p=>(2*p.1+2,p.2))))
theorem Tr.RD(l:Tr α)(a:Option α)(r:Tr α):(Tr.node l a r).jE=(match a with|some v=>[(0,v)]|none=>[])++(l.jE.map (fun p=>(2*p.1+1,p.2))++r.jE.map (fun p=>(2*p.1+2,p.2))):=rfl
theorem Tr.aps:∀(p:kP) (t:Tr α) (v:α),Tr.gP p t=some v→(p.dec,v)∈t.jE:=by
 intro p
 induction p with
 |e=>
  intro t v hv
  cases t with
  |nil=>cases hv
  |node l a r=>
   have hv:a=some v:=hv
   subst hv
   rw[Tr.RD]
   exact List.mem_append_left _ (List.mem_singleton.2 rfl)
 |l p ih=>
  intro t v hv
  cases t with
  |nil=>cases hv
  |node l a r=>
   rw[Tr.RD]
   exact List.mem_append_right _ (List.mem_append_left _ (List.mem_map.2 ⟨_,ih l v hv,rfl⟩))
 |r p ih=>
  intro t v hv
  cases t with
  |nil=>cases hv
  |node l a r=>
   rw[Tr.RD]
   exact List.mem_append_right _ (List.mem_append_right _ (List.mem_map.2 ⟨_,ih r v hv,rfl⟩))
theorem Tr.Gu{t:Tr α}{k:Nat}{v:α}(h:t.get k=some v):(k,v)∈t.jE:=by
 have:=Tr.aps (BP k) t v h
 rwa[Qy]at this
end
theorem apt{E:Env}{P:Program}(h1:E.ty.jE.map (fun x=>P.info? x.1)=E.ty.jE.map (fun x=>some x.2.info))(h2:E.ty.jE.map (fun x=>P.underlying x.1)=E.ty.jE.map (fun x=>some x.2.und)) :
  ∀t T,E.ty.get t=some T→P.info? t=some T.info∧P.underlying t=some T.und:=fun t T h=>
 ⟨List.map_inj_left.1 h1 (t,T) (Tr.Gu h),List.map_inj_left.1 h2 (t,T) (Tr.Gu h)⟩
theorem apu{E:Env}{P:Program}(h1:E.fns.jE.map (fun x=>P.funcs[x.1]?)=E.fns.jE.map (fun x=>some x.2))(h2:E.fns.jE.all (fun x=>!decide (x.2.name = "runtime.NumGoroutine"))=true) :
  ∀f F,E.fns.get f=some F→P.funcs[f]?=some F∧F.name≠ "runtime.NumGoroutine":=fun f F h=>
 ⟨List.map_inj_left.1 h1 (f,F) (Tr.Gu h),by have:=List.all_eq_true.1 h2 (f,F) (Tr.Gu h);simpa using this⟩
theorem apv{P:Program}{T:Tr Unit}(h:T.jE.all (fun x=>!P.eqGuardType P.depth x.1&&!P.stoodInHeld x.1)=true):∀t,(T.get t).isSome=true→P.eqGuardType P.depth t=false∧P.stoodInHeld t=false:=by
 intro t ht
 cases hg:T.get t with
 |none=>rw[hg]at ht;cases ht
 |some u=>
  have:=List.all_eq_true.1 h (t,u) (Tr.Gu hg)
  simpa using this
end Go.aY
namespace Go.aY
open Go.RowKit
variable [O:dO]
section
variable {G:GB} {B:Nat→Prop} {W0:World} {σ:Sg} {V:Nat→Prop} {h:MH} {w w':World}
theorem Rel.grown(R:Rel G B W0 σ V h w)(hW:∀k,B k→k<W0.heap.size)(hb:Below w.heap.size w w'):Rel G B W0 σ V h w':=
 ⟨fun id b hv hg=>(R.blk id b hv hg).jf (fun _ _=>rfl) (fun _ hx=>hx) hv (fun hl=>hb.block _ (R.lt hv hg hl)),R.inj,R.own,R.qI,R.nx,R.vx,R.gx,
  R.below.of_below hb (R.size hW)⟩
noncomputable def apw(n:Nat):List MV:=(List.range n).map .opq
end
noncomputable def asn(f n:Nat)(m:Int)(b:Bool)(g:FuncId)(args:List MV)(h:MH):Option (MV×MH):=
 cond (Nat.beq g f) (match args with
  | [.sl id off len _,.int .i64 k]=>cond (and (Nat.beq len 1) (decide (k=m))) (match h.get id with
   |some (.cells cs _ _ _)=>cond (and (Nat.beq off 0) (sJ cs (apw n))) (some (.bool b,h)) none
   |_=>none) none
  |_=>none) none
end Go.aY
namespace Go.aY
abbrev apx(l:List Value)(hl:∀v∈l,v.cells=#[v]∧v.oneCell'=true):dO where
 val i:=(l[i]?).getD .nilFunc
 single i:=by
  cases h:l[i]? with
  |none=>rfl
  |some v=>exact(hl v (List.mem_of_getElem? h)).1
 one i:=by
  cases h:l[i]? with
  |none=>rfl
  |some v=>exact(hl v (List.mem_of_getElem? h)).2
end Go.aY
open Go Go.aY Go.Proofs
noncomputable def Go.aY.Tr.ofL{α:Type}(l:List (Nat×α)):Tr α:=List.rec .nil (fun x _ ih=>ih.put x.1 x.2) l
noncomputable def Go.aY.Tr.ofN{α:Type}(k:Nat)(l:List α):Tr α:=List.rec (fun _=>.nil) (fun x _ ih k=>(ih (Nat.succ k)).put k x) l k
namespace Go.Dz
noncomputable def d(x:TypeInfo):MT:=⟨x.desc,x⟩
open Tryz in
noncomputable def Gv:Tr MT:=.ofN 0 [d t0,d t1,d t2,d t3,d t4,d t5,⟨t5.desc,t6⟩,d t7,⟨t7.desc,t8⟩,d t9,⟨t9.desc,t10⟩,⟨t9.desc,t11⟩,d t12,d t13,⟨t13.desc,t14⟩,d t15,d t16,d t17,d t18,⟨t18.desc,t19⟩,d t20,d t21,d t22,d t23,d t24,⟨t24.desc,t25⟩,d t26,d t27,⟨t27.desc,t28⟩,d t29,d t30,d t31,⟨t31.desc,t32⟩,d t33,d t34,⟨t34.desc,t35⟩,d t36,⟨t36.desc,t37⟩,d t38,d t39,d t40,d t41,d t42,d t43,⟨t43.desc,t44⟩,d t45,d t46,d t47,⟨t47.desc,t48⟩,d t49,d t50,⟨t50.desc,t51⟩,d t52,d t53,d t54,d t55,d t56,d t57,d t58,d t59,d t60,⟨t60.desc,t61⟩,d t62,d t63,⟨t63.desc,t64⟩,⟨t3.desc,t65⟩,d t66,d t67,d t68,d t69,d t70,d t71,d t72,d t73,d t74,d t75,d t76,d t77,d t78,d t79,d t80,d t81,d t82,d t83,d t84,d t85,d t86,d t87,d t88,⟨t88.desc,t89⟩,d t90,⟨t90.desc,t91⟩,d t92,d t93,d t94,d t95,d t96,d t97,d t98,d t99,d t100,d t101,d t102,d t103,d t104,d t105,d t106,d t107,d t108,d t109,d t110,d t111,d t112,d t113,d t114,d t115,d t116,d t117,d t118,d t119,d t120,d t121,d t122,⟨t122.desc,t123⟩,d t124,d t125,d t126,d t127,d t128,d t129,d t130,d t131,d t132,d t133,d t134,d t135,d t136,d t137,d t138,d t139,d t140,d t141,d t142,d t143,d t144,d t145,d t146,d t147,d t148,d t149,d t150,⟨t150.desc,t151⟩,d t152,d t153,d t154,⟨t154.desc,t155⟩,d t156,d t157,d t158,d t159,d t160,d t161,d t162,⟨t162.desc,t163⟩,d t164,d t165,d t166,d t167,d t168,d t169,d t170,d t171,⟨t171.desc,t172⟩,d t173,d t174,d t175,d t176,d t177,d t178,d t179,d t180,d t181,d t182,d t183,d t184,d t185,d t186,d t187,d t188,d t189,d t190,d t191,d t192,d t193,d t194,d t195,d t196,d t197,⟨t197.desc,t198⟩,d t199,d t200,d t201,d t202,d t203,d t204,d t205,d t206,d t207,d t208,d t209,d t210,d t211,d t212,d t213,d t214,d t215,d t216,d t217,d t218,d t219,d t220,d t221,d t222,d t223,d t224,d t225,d t226,d t227,d t228,d t229,d t230,d t231,d t232,d t233,d t234,d t235,d t236,d t237,d t238,d t239,⟨t3.desc,t240⟩,d t241,d t242,d t243,d t244,d t245,d t246,d t247,d t248,d t249,d t250,d t251,d t252,d t253,d t254,d t255,d t256,d t257,d t258,d t259,d t260,d t261,d t262,d t263,d t264,d t265,d t266,d t267,d t268,d t269,d t270,d t271,d t272,d t273,d t274,d t275,d t276,d t277,d t278,⟨t278.desc,t279⟩,d t280,d t281,d t282,d t283,d t284,d t285,d t286,d t287,⟨t3.desc,t288⟩,d t289,d t290,d t291,d t292,d t293,d t294,d t295,d t296,d t297,d t298,d t299,d t300,d t301,d t302,d t303,d t304,d t305,⟨t305.desc,t306⟩,d t307,d t308,d t309,d t310,⟨t310.desc,t311⟩,d t312,⟨t312.desc,t313⟩,d t314,d t315,d t316,d t317,d t318,d t319,d t320,d t321,d t322,d t323,d t324,d t325,d t326,d t327,d t328,d t329,d t330,d t331,d t332,d t333,d t334,d t335,d t336,d t337,d t338,d t339,d t340,d t341,d t342,d t343,d t344,d t345,⟨t345.desc,t346⟩,d t347,d t348,d t349,⟨t349.desc,t350⟩,d t351,d t352,d t353,d t354,⟨t106.desc,t355⟩,d t356,d t357,d t358,d t359,d t360,d t361,d t362,d t363,⟨t363.desc,t364⟩,d t365,d t366,d t367,d t368,⟨t368.desc,t369⟩,d t370,d t371,d t372,d t373,d t374,d t375,d t376,d t377,d t378,d t379,d t380,d t381,d t382,d t383,d t384,d t385,d t386,d t387,d t388,d t389,d t390,d t391,d t392,d t393,d t394,d t395,d t396,d t397,d t398,d t399,d t400,d t401,d t402,⟨t402.desc,t403⟩,d t404,d t405,d t406,d t407,⟨t407.desc,t408⟩,d t409,d t410,d t411,d t412,d t413,d t414,d t415,d t416,d t417,d t418,d t419,d t420,⟨t420.desc,t421⟩,d t422,⟨t422.desc,t423⟩,d t424,d t425,⟨t425.desc,t426⟩,d t427,d t428,d t429,d t430,d t431,d t432,d t433,⟨t433.desc,t434⟩,d t435,d t436,⟨t436.desc,t437⟩,d t438,d t439,d t440,d t441,d t442,d t443,d t444,⟨t444.desc,t445⟩,d t446,⟨t446.desc,t447⟩,d t448,⟨t448.desc,t449⟩,d t450,⟨t450.desc,t451⟩,d t452,d t453,d t454,d t455,d t456,d t457,d t458,d t459,d t460,d t461,d t462,d t463,d t464,d t465,d t466,d t467,⟨t467.desc,t468⟩,d t469,d t470,⟨t470.desc,t471⟩,⟨t5.desc,t472⟩,⟨t5.desc,t473⟩,d t474,⟨t21.desc,t475⟩,⟨t21.desc,t476⟩,d t477,⟨t477.desc,t478⟩,d t479]
open Tryz in
noncomputable def KY:Tr Func:=.ofN 0 [f0,f1,f2,f3,f4,f5,f6,f7,f8,f9,f10,f11,f12,f13,f14,f15,f16,f17,f18,f19,f20,f21,f22,f23,f24,f25,f26,f27,f28,f29,f30,f31,f32,f33,f34,f35,f36,f37,f38,f39,f40,f41,f42,f43,f44,f45,f46,f47,f48,f49,f50,f51,f52,f53,f54,f55,f56,f57,f58,f59,f60,f61,f62,f63,f64,f65,f66,f67,f68,f69,f70,f71,f72,f73,f74,f75,f76,f77,f78,f79,f80,f81,f82,f83,f84,f85,f86,f87,f88,f89,f90,f91,f92,f93,f94,f95,f96,f97,f98,f99,f100,f101,f102,f103,f104,f105,f106,f107,f108,f109,f110,f111,f112,f113,f114,f115,f116,f117,f118,f119,f120,f121,f122,f123,f124,f125,f126,f127,f128,f129,f130,f131,f132,f133,f134,f135,f136,f137,f138,f139,f140,f141,f142,f143,f144,f145,f146,f147,f148,f149,f150,f151,f152,f153,f154,f155,f156,f157,f158,f159,f160,f161,f162,f163,f164,f165,f166,f167,f168,f169,f170,f171,f172,f173,f174,f175,f176,f177,f178,f179,f180,f181,f182,f183,f184,f185,f186,f187,f188,f189,f190,f191,f192,f193,f194,f195,f196,f197,f198,f199,f200,f201,f202,f203,f204,f205,f206,f207,f208,f209,f210,f211,f212,f213,f214,f215,f216,f217,f218,f219,f220,f221,f222,f223,f224,f225,f226,f227,f228,f229,f230,f231,f232,f233,f234,f235,f236,f237,f238,f239,f240,f241,f242,f243,f244,f245,f246,f247,f248,f249,f250,f251,f252,f253,f254,f255,f256,f257,f258,f259,f260,f261,f262,f263,f264,f265,f266,f267,f268,f269,f270,f271,f272,f273,f274,f275,f276,f277,f278,f279,f280,f281,f282,f283,f284,f285,f286,f287,f288,f289,f290,f291,f292,f293,f294,f295,f296,f297,f298,f299,f300,f301,f302,f303,f304,f305,f306,f307,f308,f309,f310,f311,f312,f313,f314,f315,f316,f317,f318,f319,f320,f321,f322,f323,f324,f325,f326,f327,f328,f329,f330,f331,f332,f333,f334,f335,f336,f337,f338,f339,f340,f341,f342,f343,f344,f345,f346,f347,f348,f349,f350,f351,f352,f353,f354,f355,f356,f357,f358,f359,f360,f361,f362,f363,f364,f365,f366,f367,f368,f369,f370,f371,f372,f373,f374,f375,f376,f377,f378,f379,f380,f381,f382,f383,f384,f385,f386,f387,f388,f389,f390,f391,f392,f393,f394,f395,f396,f397,f398,f399,f400,f401,f402,f403,f404,f405,f406,f407,f408,f409,f410,f411,f412,f413,f414,f415,f416,f417,f418,f419,f420,f421,f422,f423,f424,f425,f426,f427,f428,f429,f430,f431,f432,f433,f434,f435,f436,f437,f438,f439,f440,f441,f442,f443,f444,f445,f446,f447,f448,f449,f450,f451,f452,f453,f454,f455,f456,f457]
noncomputable def bQ:Tr Unit:=.ofL ([0,1,2,3,4,5,6,7,8,9,10,11,12,15,16,17,20,21,22,23,24,25,26,27,28,29,30,31,32,33,34,35,36,37,38,39,40,41,42,43,44,45,46,47,48,49,50,51,52,53,54,55,56,57,58,59,60,61,62,63,64,65,66,67,68,69,70,71,72,73,74,75,76,77,78,79,80,81,82,83,84,85,86,87,88,89,90,91,92,93,94,95,96,97,98,99,100,101,102,103,104,105,106,107,108,109,110,111,112,113,114,115,116,117,118,119,120,121,122,123,124,125,126,127,128,129,130,131,132,133,134,135,136,137,138,139,140,141,142,143,144,145,146,147,148,149,150,151,152,153,156,157,158,159,160,161,162,163,164,165,166,167,168,169,170,171,172,173,174,175,176,177,178,179,180,181,182,183,184,185,186,187,188,189,190,191,192,193,194,195,196,197,198,199,200,201,202,203,204,205,206,207,208,209,210,211,212,213,214,215,216,217,218,219,220,221,222,223,224,225,226,227,228,229,230,231,232,233,234,235,236,237,238,239,240,241,242,243,244,245,246,247,248,249,250,251,252,253,254,255,256,257,258,259,260,261,262,263,264,265,266,267,268,269,270,271,272,273,274,275,276,277,278,279,280,281,282,283,284,285,286,287,288,289,290,291,292,293,294,295,296,297,298,299,300,301,302,303,304,307,308,309,310,311,312,313,314,315,316,317,318,319,320,321,322,323,324,325,326,327,328,329,330,331,332,333,334,335,336,337,338,339,340,341,342,343,344,345,346,347,348,349,350,351,352,353,354,355,356,357,358,359,360,361,362,363,364,365,366,367,368,369,370,371,372,373,374,375,376,377,378,379,380,381,382,383,384,385,386,387,388,389,390,391,392,393,394,395,396,397,398,399,400,401,402,403,404,405,406,407,408,409,410,411,412,413,414,415,416,417,418,419,420,421,422,423,424,425,426,427,428,429,430,431,432,433,434,435,436,437,438,439,440,441,442,443,444,445,446,447,448,449,450,451,452,453,454,455,456,457,458,459,460,461,462,463,464,465,466,469,472,473,474,475,476,479].map fun x=>(x,()))
noncomputable def DC(ro:Nat)(kQ:FuncId→List MV→MH→Option (MV×MH))(bo:BinOp→TypeId→MV→MV→Option MV)(co:TypeId→TypeId→MV→Option MV):Env:=⟨Gv,KY,fun f=>cond (Nat.beq f 331) (some .Zt) none,fun t=>Option.rec false (fun _=>true) (bQ.get t),⟨ro,10⟩,kQ,bo,co⟩
noncomputable def EEw(ro:Nat)(kQ:FuncId→List MV→MH→Option (MV×MH)):Env:=DC ro kQ (fun _ _ _ _=>none) (fun _ _ _=>none)
end Go.Dz
namespace Go.aY
theorem apz(b:Nat)(l:List Nat)(c i:Nat):FH (b::l) c i=Bool.rec (FH l c (i+1)) (.ofNat i) (Nat.beq b c):=rfl
theorem apA{b c:Nat}(hb:b<256)(hc:c<256)(h:UInt8.ofNat b=(UInt8.ofNat c)):b=c:=by
 have:=congrArg UInt8.toNat h
 simp only[UInt8.toNat_ofNat',Nat.reducePow]at this
 omega
theorem idx_eq(c:Nat)(hc:c<256):∀(l:List Nat),(∀b∈l,b<256)→∀i,FH l c i=if Lib.indexByte (l.map UInt8.ofNat) (UInt8.ofNat c)=-1 then -1 else Lib.indexByte (l.map UInt8.ofNat) (UInt8.ofNat c)+i:=by
 intro l
 induction l with
 |nil=>intro _ i;rfl
 |cons b l ih=>
  intro hl i
  rw[apz,List.map_cons]
  have ihl:=ih (fun x hx=>hl x (by simp[hx])) (i+1)
  simp only[Lib.indexByte]
  cases hb:Nat.beq b c with
  |true=>
   have e:b=c:=Nat.eq_of_beq_eq_true hb
   subst e
   simp
  |false=>
   have hne:¬UInt8.ofNat b=(UInt8.ofNat c):=fun e=>by
    have:=apA (hl b (by simp)) hc e
    subst this
    rw[Nat.beq_refl]at hb;cases hb
   simp only[beq_iff_eq,hne,if_false]
   show FH l c (i+1)=_
   rw[ihl]
   split
   ·simp
   ·rename_i h1
    have h0:(-1:Int)≤Lib.indexByte (l.map UInt8.ofNat) (UInt8.ofNat c):=by
     generalize l.map UInt8.ofNat=q
     induction q with
     |nil=>simp[Lib.indexByte]
     |cons x q ihq=>
       simp only[Lib.indexByte];repeat' split
       all_goals first|omega|simp_all
    rw[if_neg (by omega)]
    push_cast
    omega
end Go.aY
