/- A part of the proof. -/
import Derived.Test.YtibhckkjciflaaaGreatDoorA07
import Derived.OrdersIn
namespace Go.aI
variable [O:dw]
open Go.RowKit
section
variable {E:Env} {P:Program} {B:Nat→Prop} {W0:World}
def oneOf:List MV→MV
 | [v]=>v
 |vs=>.bY vs
omit O in
theorem ai0(v:MV)(l:List MV)(t:Tr MV)(i:Nat):xy (v::l) t i=xy l (t.put i v) (i+1):=rfl
omit O in
theorem ai1:∀(l:List MV) (t:Tr MV) (i k:Nat),(xy l t i).get k=if i≤k∧k<i+l.length then l[k-i]? else t.get k:=by
 intro l
 induction l with
 |nil=>intro t i k;rw[if_neg (by simp)];rfl
 |cons v l ih=>
  intro t i k
  rw[ai0,ih,Tr.get_put]
  simp only[List.length_cons]
  by_cases h1:i+1≤k∧k<i+1+l.length
  ·rw[if_pos h1,if_pos (by omega),show k-i=(k-(i+1))+1 by omega];simp
  ·rw[if_neg h1]
   by_cases h2:k=i
   ·subst h2;rw[if_pos rfl,if_pos (by omega)];simp
   ·rw[if_neg h2,if_neg (by omega)]
theorem ai2{σ:Sg}{V:Nat→Prop}{args:List MV}(hw:wfs σ V args)(nt:Nat) :
  ou σ V (xy args .nil 0) (Nat.max nt (dC args 0)) ((⟨aF σ args⟩:Array Value)++Array.replicate (nt-(⟨aF σ args⟩:Array Value).size) undef):=by
 have hl:(aF σ args).length=args.length:=by rw[dS];simp
 refine⟨?_,fun k v hk=>?_⟩
 ·simp only[Array.size_append,List.size_toArray,hl,Array.size_replicate,jl]
  show _=Nat.max nt (args.length+0)
  have:Nat.max nt (args.length+0)=max nt args.length:=rfl
  rw[this];omega
 ·rw[ai1]at hk
  split at hk
  ·rename_i hc
   simp only[Nat.sub_zero]at hk
   refine⟨(fP _).1 hw v (List.mem_of_getElem? hk),?_⟩
   rw[Array.getElem?_append_left (by simp[hl];omega)]
   rw[dS];simp[hk]
  ·rw[Tr.get_nil]at hk;cases hk
omit O in
theorem ai3(d:Nat)(l:List Nat)(h:MH):zF E (d::l) h=(match h.get d with|some .pU=>cond (Nat.ble E.G.ro d) (zF E l (h.set d .dead)) none|_=>none):=rfl
omit O in
theorem ai4(m:MA)(h:MH)(r:ResultVar)(l:List ResultVar):qG E m h (r::l) =
  (match r with
  | .tmp t=>match m.tmps.get t,qG E m h l with|some v,some vs=>some (v::vs)|_,_=>none
  | .cell p t=>match dK E t,m.tmps.get p,qG E m h l with
   |some T,some (.ptr id off),some vs=>match BV T h id off with|some v=>some (v::vs)|none=>none
   |_,_,_=>none):=rfl
theorem ai5(hE:bT E P){σ:Sg}{V:Nat→Prop}{h:MH}{w:World}{m:MA}{tmps:Array Value}(R:Rel E.G B W0 σ V h w)(ha:ou σ V m.tmps m.nt tmps):∀(l:List ResultVar) (vs:List MV),qG E m h l=some vs→
  wfs σ V vs∧(l.mapM (m:=Sem) fun
   | .tmp t=>pure (tmps.getD t undef)
   | .cell a t=>do loadVar t (←asAddr (tmps.getD a undef))).run P w=.ok (aF σ vs) w:=by
 intro l
 induction l with
 |nil=>
   intro vs hv;have e:qG E m h []=some []:=rfl
   rw[e]at hv;cases hv;exact⟨trivial,rfl⟩
 |cons r l ih=>
  intro vs hv
  rw[ai4]at hv
  rw[List.mapM_cons]
  cases r with
  |tmp t=>
   dsimp only at hv
   split at hv
   ·rename_i v us hv1 hv2
    cases hv
    obtain⟨h1,h2⟩:=ih us hv2
    obtain⟨g1,g2⟩:=ha.cell t v hv1
    refine⟨by simp only[wfs];exact⟨g1,h1⟩,?_⟩
    simp only[pure_bind]
    rw[Sem.bind_ok h2]
    simp only[Sem.run_pure,aF,Array.getD_eq_getD_getElem?,g2]
    rfl
   ·cases hv
  |cell p t=>
   dsimp only at hv
   split at hv
   ·rename_i T id off us hT hp hv2
    split at hv
    ·rename_i v hr
     cases hv
     obtain⟨h1,h2⟩:=ih us hv2
     obtain⟨g1,g2⟩:=ha.cell p _ hp
     simp only[wf]at g1
     obtain⟨k1,k2⟩:=UY hE R hT g1 hr
     refine⟨by simp only[wfs];exact⟨k1,h1⟩,?_⟩
     have hc:(do loadVar t (←asAddr (tmps.getD p undef)):Sem Value).run P w=.ok (ae σ v) w:=by
      rw[Array.getD_eq_getD_getElem?,g2];exact k2
     refine(Sem.bind_ok hc).trans ?_
     rw[Sem.bind_ok h2]
     rfl
    ·cases hv
   ·cases hv
theorem ai6(hE:bT E P){σ:Sg}{V:Nat→Prop}{h:MH}{w:World}{m:MA}{tmps:Array Value}(R:Rel E.G B W0 σ V h w)(ha:ou σ V m.tmps m.nt tmps){F:Func}{vs:List MV}(hr:qG E m h F.results.toList=some vs) :
  ∃v:MV,oneOf vs=v∧wf σ V v∧(results F tmps).run P w=.ok (ae σ v) w:=by
 obtain⟨h1,h2⟩:=ai5 (P:=P) hE R ha _ _ hr
 unfold results
 have hm:(F.results.mapM (m:=Sem) fun
   | .tmp t=>pure (tmps.getD t undef)
   | .cell a t=>do loadVar t (←asAddr (tmps.getD a undef))).run P w=.ok ⟨aF σ vs⟩ w:=by
  rw[Array.mapM_eq_mapM_toList,←bind_pure_comp]
  exact(Sem.bind_ok h2).trans rfl
 refine⟨_,rfl,?_,?_⟩
 ·unfold oneOf
  split
  ·simp only[wfs]at h1;exact h1.1
  ·simp only[wf];exact h1
 ·refine(Sem.bind_ok hm).trans ?_
  cases vs with
  |nil=>simp[aF,oneOf,ae]
  |cons v vs=>cases vs with
   |nil=>simp[aF,oneOf]
   |cons u vs=>simp[aF,oneOf,ae]
omit O in
theorem ai7{w:World}{b:Nat}{ds:List Deferred}(hb:w.heap[b]?=some (.deferred (some ds))):(Instr.takeDeferred b).run P w=.ok ds (w.putObj b (.deferred none)):=by
 unfold Instr.takeDeferred
 simp[getObj,setObj,Sem.run,hb,World.putObj]
theorem ai8(hE:bT E P){F:Func}{tmps:Array Value}{m:MA}{K:Ending→World→Prop}:∀(ds:List Nat) (σ:Sg) (V:Nat→Prop) (h h':MH) (w:World),(∀d∈ds,V d)→Rel E.G B W0 σ V h w→ou σ V m.tmps m.nt tmps→
  zF E ds h=some h'→(∃vs,qG E m h' F.results.toList=some vs)→
  (∀w' v,Rel E.G B W0 σ V h' w'→h'.nx=h.nx→(∃vs,qG E m h' F.results.toList=some vs∧oneOf vs=v)→wf σ V v→K (.returned (ae σ v)) w')→
  LeavesInM Fence.wide 0 P F tmps K (ds.map (vH σ)) .returning w:=by
 intro ds
 induction ds with
 |nil=>
  intro σ V h h' w _ R ht hd hr hK
  have e:zF E [] h=some h:=rfl
  rw[e]at hd;cases hd
  obtain⟨vs,hvs⟩:=hr
  obtain⟨v,hv,hw,hrun⟩:=ai6 (P:=P) hE R ht hvs
  show LeavesIn Fence.wide 0 P F tmps K [] .returning w
  exact⟨_,hrun,hK w v R rfl ⟨vs,hvs,hv⟩ hw⟩
 |cons d ds ih=>
  intro σ V h h' w hdv R ht hd hr hK
  rw[ai3]at hd
  split at hd
  ·rename_i hg
   cases hG:Nat.ble E.G.ro d with
   |false=>rw[hG]at hd;cases hd
   |true=>
   rw[hG]at hd
   simp only[cond_true]at hd
   have hG:=Nat.le_of_ble_eq_true hG
   have hb:w.heap[(σ d).blk]?=some (.deferred (some [])):=R.blk d _ (hdv d (by simp)) hg
   have R1:Rel E.G B W0 σ V (h.set d .dead) (w.putObj (σ d).blk (.deferred none)):=
    R.write (hdv d (by simp)) hg rfl hG _ trivial
   refine⟨by simp,.inl ⟨(σ d).blk,_,rfl,ai7 hb,?_⟩⟩
   exact ih σ V _ h' _ (fun x hx=>hdv x (by simp[hx])) R1 ht hd hr (fun w' v r1 r2 r3 r4=>hK w' v r1 r2 r3 r4)
  ·cases hd
omit O in
theorem ai9{F:Func}{m:MA}{h h':MH}{v:MV}(ho:CE E F m h=some (v,h')):zF E m.defs h=some h'∧∃vs,qG E m h' F.results.toList=some vs∧oneOf vs=v:=by
 unfold CE at ho
 split at ho
 ·cases ho
 ·rename_i h1 hd
  split at ho
  ·rename_i u hr
   cases ho
   exact⟨hd,_,hr,rfl⟩
  ·rename_i vs hn hr
   cases ho
   refine⟨hd,_,hr,?_⟩
   unfold oneOf
   split
   ·exact absurd rfl (hn _)
   ·rfl
  ·cases ho
def zQ(E:Env)(P:Program)(B:Nat→Prop)(W0:World):Prop:=
 ∀f args h v h',E.jP f args h=some (v,h')→∀σ V w,Rel E.G B W0 σ V h w→wfs σ V args→Calls P f ⟨aF σ args⟩ w (tq E.G B W0 σ V h h' v)
theorem aja(hE:bT E P)(hO:zQ E P B W0)(hW:∀k,B k→k<W0.heap.size){go:Task→MH→Option (MV×MH)}(hgo:oD E P B W0 go)(hd:zO E P B W0 go){f:FuncId}{args:List MV}{h h':MH}{v:MV}(ho:Lt E go f args h=some (v,h')) :
  ∃F,E.fns.get f=some F∧F.body.isSome=true∧∀σ V w,Rel E.G B W0 σ V h w→wfs σ V args→Calls P f ⟨aF σ args⟩ w (tq E.G B W0 σ V h h' v):=by
 unfold Lt at ho
 split at ho
 ·rename_i F hF
  split at ho
  ·rename_i body hb
   refine⟨F,hF,by rw[hb];rfl,fun σ V w R hw=>?_⟩
   cases Nc:E.jP f args h with
   |some r=>
    rw[Nc]at ho
    cases ho
    exact hO f args h v h' Nc σ V w R hw
   |none=>
   rw[Nc]at ho
   simp only at ho
   refine callsIn_wide.1 (callsIn_of_wp_marks (F:=Fence.wide) (n:=0) (hE.fns f F hF).1 hb trivial ?_)
   cases hc:code E go none 1000 body ⟨xy args .nil 0,Nat.max F.ntmps (dC args 0),[]⟩ h with
   |none=>rw[hc]at ho;cases ho
   |some o=>
    rw[hc]at ho
    have ha:iW σ V ⟨xy args .nil 0,Nat.max F.ntmps (dC args 0),[]⟩ {tmps:=(⟨aF σ args⟩:Array Value)++Array.replicate (F.ntmps-(⟨aF σ args⟩:Array Value).size) undef,defers:=[]}:=
     ⟨ai2 hw _,rfl,fun d hd=>by cases hd⟩
    have hwp:=Nb hE hW hgo hd none 1000 body _ h o hc σ V w _ none R ha (.inl ⟨rfl,rfl⟩)
    refine wpIn_mono hwp ?_
    rintro e a1 w1 ⟨rfl,σ1,V1,g1,g2,g3,g4,g5,g6⟩
    have key:CE E F o.a o.h=some (v,h')→LeavesInM Fence.wide 0 P F a1.tmps (tq E.G B W0 σ V h h' v) a1.defers .returning w1:=by
     intro hret
     obtain⟨hdf,vs,hvs,hv⟩:=ai9 hret
     rw[g6.df]
     refine ai8 (P:=P) hE o.a.defs σ1 V1 o.h h' w1 g6.dv g5 g6.tm hdf ⟨vs,hvs⟩ ?_
     rintro w2 v2 r1 r2 ⟨vs2,h2,hv2⟩ r4
     rw[hvs]at h2
     cases h2
     rw[hv]at hv2
     subst hv2
     exact⟨σ1,V1,g1,g2,g3,by rw[r2];exact g4,r1,r4,rfl⟩
    obtain⟨oe,oa,oh⟩:=o
    cases oe with
    |normal=>exact key ho
    |ret=>exact key ho
    |exit id=>cases ho
    |goto l=>cases ho
  ·cases ho
 ·cases ho
theorem ajb{σ:Sg}{V:Nat→Prop}{nt:Nat}:∀(ps:List Nat) (t:Tr MV) (vs:List MV) (t':Tr MV) (a:Array Value),ou σ V t nt a→wfs σ V vs→CB ps t vs=some t'→(∀p∈ps,p<nt)→
  ps.length=vs.length∧ou σ V t' nt ((ps.zip (aF σ vs)).foldl (fun tmps p=>tmps.setIfInBounds p.1 p.2) a):=by
 intro ps
 induction ps with
 |nil=>
  intro t vs t' a ht hw ho _
  cases vs with
  |nil=>
   have e:CB [] t []=some t:=rfl
   rw[e]at ho;cases ho
   exact⟨rfl,ht⟩
  |cons v vs=>cases ho
 |cons p ps ih=>
  intro t vs t' a ht hw ho hp
  cases vs with
  |nil=>cases ho
  |cons v vs=>
   have e:CB (p::ps) t (v::vs)=CB ps (t.put p v) vs:=rfl
   rw[e]at ho
   simp only[wfs]at hw
   have hlt:=hp p (by simp)
   have ht1:ou σ V (t.put p v) nt (a.setIfInBounds p (ae σ v)):=by
    refine⟨by simpa using ht.size,fun k u hk=>?_⟩
    rw[Tr.get_put]at hk
    split at hk
    ·rename_i e
     cases hk
     refine⟨hw.1,?_⟩
     rw[e,Array.getElem?_setIfInBounds,if_pos rfl,if_pos (by rw[ht.size];exact hlt)]
    ·rename_i e
     obtain⟨h1,h2⟩:=ht.cell k u hk
     exact⟨h1,by rw[Array.getElem?_setIfInBounds_ne (Ne.symm e)];exact h2⟩
   obtain⟨h1,h2⟩:=ih _ vs t' _ ht1 hw.2 ho (fun q hq=>hp q (by simp[hq]))
   exact⟨by simp[h1],by simpa[aF]using h2⟩
end
end Go.aI
namespace Go.aI
variable [O:dw]
open Go.RowKit
section
variable {E:Env} {P:Program} {B:Nat→Prop} {W0:World}
theorem ajc{σ:Sg}{V:Nat→Prop}{h':MH}{w:World}{l:Nat}{v:MV}{o:MO}{a:Act}(hG:E.G.ro≤l)(hl:V l)(R:Rel E.G B W0 σ V o.h w)(ho:roundEnd l (some o)=some (v,h')){K:Ending→World→Prop}
  (hK:∀w',Rel E.G B W0 σ V h' w'→h'.nx=o.h.nx→wf σ V v→K (.returned (ae σ v)) w'):roundPost P (σ l).blk K (ex o.e) a w:=by
 obtain⟨oe,oa,oh⟩:=o
 simp only[roundEnd]at ho
 split at ho
 ·rename_i L hg
  obtain⟨tm,fn,b1,b2,b3⟩:=R.blk l _ hl hg
  cases ho
  have fin:∀(st:LoopState) (j:Option Code),Rel E.G B W0 σ V (oh.set l (.loop {L with state:=st,pending:=j})) (w.putObj (σ l).blk (.loop (nz σ {L with state:=st,pending:=j} tm fn))):=
   fun st j=>R.write hl hg rfl hG _ ⟨tm,fn,World.putObj_heap_same (R.lt hl hg rfl),b2,b3⟩
  have run:∀(j:Option Code),(Instr.endRound (σ l).blk j).run P w=.ok (.bool j.isNone) (w.putObj (σ l).blk (.loop (nz σ {L with state:=if j.isNone then .ready else .done,pending:=j} tm fn))):=by
   intro j
   unfold Instr.endRound
   rw[Sem.bind_ok (Df (P:=P) b1),Sem.bind_ok (run_setObj_loop (P:=P) _ b1)]
   rfl
  cases oe with
  |normal=>exact⟨_,_,run none,hK _ (fin _ _) rfl trivial⟩
  |ret=>exact⟨_,_,run (some .ret),hK _ (fin _ _) rfl trivial⟩
  |exit id=>exact⟨_,_,run (some (.exit id)),hK _ (fin _ _) rfl trivial⟩
  |goto t=>exact⟨_,_,run (some (.goto t)),hK _ (fin _ _) rfl trivial⟩
 ·cases ho
theorem ajd(hE:bT E P)(hW:∀k,B k→k<W0.heap.size){go:Task→MH→Option (MV×MH)}(hgo:oD E P B W0 go)(hd:zO E P B W0 go){l:Nat}{args:List MV}{h h':MH}{v:MV}(ho:LC E go l args h=some (v,h'))
  {σ:Sg} {V:Nat→Prop} {w:World} (R:Rel E.G B W0 σ V h w) (hl:V l) (hw:wfs σ V args) :
  ∃f tm assign body,(Instr.yield (σ l).blk ⟨aF σ args⟩).run P w=.ok (.round (σ l).blk f tm assign body) w∧RoundIn Fence.wide 0 P (σ l).blk f tm assign body w (tq E.G B W0 σ V h h' v):=by
 unfold LC at ho
 split at ho
 ·rename_i L hg
  obtain⟨tm,fn,b1,b2,b3⟩:=R.blk l _ hl hg
  cases hc:(and (Nat.ble E.G.ro l) (L.params.all fun p=>Nat.blt p L.nt))with
  |false=>rw[hc]at ho;cases ho
  |true=>
   rw[hc]at ho
   simp only[cond_true]at ho
   obtain⟨c1,c2⟩:=dL hc
   have hG:=Nat.le_of_ble_eq_true c1
   have hp:∀p∈L.params,p<L.nt:=fun p hp=>jf (List.all_eq_true.1 c2 p hp)
   split at ho
   ·rename_i t ht
    obtain⟨hlen,GN⟩:=ajb L.params L.tmps args t tm b2 hw ht hp
    refine⟨fn,(L.params.zip (aF σ args)).foldl (fun tmps p=>tmps.setIfInBounds p.1 p.2) tm,L.assign,L.body,?_,?_⟩
    ·unfold Instr.yield
     rw[Sem.bind_ok (Df (P:=P) b1)]
     rw[if_neg (by simp[nz,hlen,dS])]
     simp only[Sem.run_pure,nz]
     congr 2
     rw[←Array.foldl_toList]
     simp
    ·refine roundIn_of_wpIn (F:=Fence.wide) (l:=(σ l).blk) trivial ?_
     split at ho
     ·rename_i m1 h1 hcode
      have ha:iW σ V ⟨t,L.nt,[]⟩ {tmps:=(L.params.zip (aF σ args)).foldl (fun tmps p=>tmps.setIfInBounds p.1 p.2) tm,defers:=[]}:=⟨GN,rfl,fun d hd=>by cases hd⟩
      have hwp:=Nb hE hW hgo hd (some l) 1000 L.assign _ h _ hcode σ V w _ (some (σ l).blk) R ha (.inr ⟨l,rfl,hl,rfl⟩)
      refine wpIn_mono hwp ?_
      rintro e a1 w1 ⟨rfl,σ1,V1,g1,g2,g3,g4,g5,g6⟩
      simp only[ex,Exit.then]
      have hl1:=g2 l hl
      have hbl:(σ1 l).blk=(σ l).blk:=by rw[g1 l hl]
      cases hb:Lu E go l L.body m1 h1 with
      |none=>rw[hb]at ho;cases ho
      |some o=>
       rw[hb]at ho
       unfold Lu at hb
       split at hb
       ·rename_i L1 hg1
        obtain⟨Nh,Dh,k1,k2,k3⟩:=g5.blk l _ hl1 hg1
        split at hb
        ·rename_i hst
         have R2:Rel E.G B W0 σ1 V1 (h1.set l (.loop {L1 with state:=.busy})) (w1.putObj (σ1 l).blk (.loop (nz σ1 {L1 with state:=.busy} Nh Dh))):=
          g5.write hl1 hg1 rfl hG _ ⟨Nh,Dh,World.putObj_heap_same (g5.lt hl1 hg1 rfl),k2,k3⟩
         refine⟨w1.putObj (σ1 l).blk (.loop (nz σ1 {L1 with state:=.busy} Nh Dh)),?_,?_⟩
         ·unfold Instr.beginRound
          rw[←hbl]
          rw[Sem.bind_ok (Df (P:=P) k1),Sem.bind_ok (run_setObj_loop (P:=P) _ k1)]
          simp only[nz,hst]
          rfl
         ·have aje:=Nb hE hW hgo hd (some l) 1000 L.body m1 _ o hb σ1 V1 _ a1 (some (σ l).blk) R2 g6 (.inr ⟨l,rfl,hl1,by rw[hbl]⟩)
          refine wpIn_mono aje ?_
          rintro e a2 w2 ⟨rfl,σ2,V2,j1,j2,j3,j4,j5,j6⟩
          have ajf:(σ2 l).blk=(σ l).blk:=by rw[j1 l hl1];exact hbl
          rw[←ajf]
          refine ajc hG (j2 l hl1) j5 ho ?_
          intro w3 r1 r2 r3
          refine After.trans g1 g2 g3 g4 (After.trans (h':=o.h) j1 j2 (fun id hid=>j3 id hid) j4 ?_)
          exact⟨σ2,V2,dJ.refl _ _,fun _ hx=>hx,fun _ hx=>.inl hx,Nat.le_of_eq r2.symm,r1,r3,rfl⟩
        ·cases hb
       ·cases hb
     ·cases ho
   ·cases ho
 ·cases ho
omit O in
theorem Vy(n:Nat)(t:Task)(h:MH):run E (n+1) t h=UQ E (run E n) t h:=rfl
theorem Vz(hE:bT E P)(hO:zQ E P B W0)(hW:∀k,B k→k<W0.heap.size)(hdr:∀go,oD E P B W0 go→zO E P B W0 go):∀n,oD E P B W0 (run E n):=by
 intro n
 induction n with
 |zero=>exact⟨fun f args h v h' ho=>(by cases ho),fun l args h v h' ho=>(by cases ho)⟩
 |succ n ih=>
  refine⟨fun f args h v h' ho=>?_,fun l args h v h' ho σ V w R hl hw=>?_⟩
  ·rw[Vy]at ho
   exact aja hE hO hW ih (hdr _ ih) ho
  ·rw[Vy]at ho
   exact ajd hE hW ih (hdr _ ih) ho R hl hw
end
end Go.aI
namespace Go.aI
variable [O:dw]
open Go.RowKit
section
variable {E:Env} {h:MH} {ev ev':Ev}
omit O in
theorem Nj:∀(l:List Operand),(∀x∈l,ev x=ev' x)→evs ev l=evs ev' l:=by
 intro l
 induction l with
 |nil=>intro _;rfl
 |cons x l ih=>intro hx;rw[LK,LK,hx x (by simp),ih (fun y hy=>hx y (by simp[hy]))]
omit O in
theorem VA(place:Nat→Option (Nat×Nat)):∀(ps:List (Nat×Operand)) (cells:List MV),(∀p∈ps,ev p.2=ev' p.2)→mf place ev ps cells=mf place ev' ps cells:=by
 intro ps
 induction ps with
 |nil=>intro cells _;rfl
 |cons p ps ih=>
  intro cells hx
  rw[LZ,LZ,hx p (by simp)]
  have:∀c,mf place ev ps c=mf place ev' ps c:=fun c=>ih c (fun q hq=>hx q (by simp[hq]))
  simp only[this]
omit O in
theorem Nk(o:Option Operand)(hx:∀x∈o.toList,ev x=ev' x):oP ev o=oP ev' o:=by
 cases o with
 |none=>rfl
 |some x=>unfold oP;dsimp only;rw[hx x (by simp)]
omit O in
theorem VB(o:Op)(hc:∀x∈o.operands,ev x=ev' x):fD E ev o h=fD E ev' o h:=by
 cases o<;>simp only[fD]
 case move x=>rw[hc x (by simp[Op.operands])]
 case assign x=>rw[hc x (by simp[Op.operands])]
 case pick c a b=>unfold yX;rw[hc c (by simp[Op.operands]),hc a (by simp[Op.operands]),hc b (by simp[Op.operands])]
 case box t x=>unfold Ld;rw[hc x (by simp[Op.operands])]
 case build t ps=>
  have hp:∀p∈ps.toList,ev p.2=ev' p.2:=fun p hp=>hc p.2 (by simp only[Op.operands,List.mem_toArray,List.mem_map];exact⟨p,hp,rfl⟩)
  have hm:∀pl c,mf pl ev ps.toList c=mf pl ev' ps.toList c:=fun pl c=>VA pl _ c hp
  unfold yZ;simp only[hm]
 case buildSlice t n ps=>
  have hp:∀p∈ps.toList,ev p.2=ev' p.2:=fun p hp=>hc p.2 (by simp only[Op.operands,List.mem_toArray,List.mem_map];exact⟨p,hp,rfl⟩)
  have hm:∀pl c,mf pl ev ps.toList c=mf pl ev' ps.toList c:=fun pl c=>VA pl _ c hp
  unfold Le;simp only[hm]
 case load t x=>unfold zf;rw[hc x (by simp[Op.operands])]
 case store t x y=>unfold FK;rw[hc x (by simp[Op.operands]),hc y (by simp[Op.operands])]
 case nilCheck x=>unfold zg;rw[hc x (by simp[Op.operands])]
 case binOp op t x y yt=>unfold zi Lh zh;rw[hc x (by simp[Op.operands]),hc y (by simp[Op.operands])]
 case unOp op t x=>unfold zk;rw[hc x (by simp[Op.operands])]
 case convert s d x=>unfold xm;rw[hc x (by simp[Op.operands])]
 case makeFunc f a b=>
  unfold zl
  rw[Nj a.toList (fun x hx=>hc x (by simp only[Op.operands,Array.mem_append];exact .inl (by simpa using hx))),Nj b.toList (fun x hx=>hc x (by simp only[Op.operands,Array.mem_append];exact .inr (by simpa using hx)))]
 case makeMap t r=>
  cases r with
  |none=>rfl
  |some x=>unfold Ll;dsimp only;rw[hc x (by simp[Op.operands])]
 case makeSlice t l c=>unfold Lm sQ;rw[hc l (by simp[Op.operands]),hc c (by simp[Op.operands])]
 case slice t x lo hi mx=>
  unfold zn
  rw[hc x (by simp[Op.operands]),Nk lo (fun y hy=>hc y (by simp only[Op.operands,Array.mem_append,Option.mem_toArray];simp at hy;exact .inl (.inl (.inr hy)))),
   Nk hi (fun y hy=>hc y (by simp only[Op.operands,Array.mem_append,Option.mem_toArray];simp at hy;exact .inl (.inr hy))),
   Nk mx (fun y hy=>hc y (by simp only[Op.operands,Array.mem_append,Option.mem_toArray];simp at hy;exact .inr hy))]
 case fieldAddr t x f=>unfold zo;rw[hc x (by simp[Op.operands])]
 case field t x f=>unfold zq;rw[hc x (by simp[Op.operands])]
 case indexAddr t x i=>unfold zt sQ;rw[hc x (by simp[Op.operands]),hc i (by simp[Op.operands])]
 case index t x i=>unfold zu sQ;rw[hc x (by simp[Op.operands]),hc i (by simp[Op.operands])]
 case lookup t m k ok=>unfold zx;rw[hc m (by simp[Op.operands]),hc k (by simp[Op.operands])]
 case mapUpdate t m k v=>unfold zy;rw[hc m (by simp[Op.operands]),hc k (by simp[Op.operands]),hc v (by simp[Op.operands])]
 case insert t m k v=>unfold zy;rw[hc m (by simp[Op.operands]),hc k (by simp[Op.operands]),hc v (by simp[Op.operands])]
 case range t x=>unfold FM;rw[hc x (by simp[Op.operands])]
 case next it s=>unfold FN;rw[hc it (by simp[Op.operands])]
 case entry it=>unfold FO;rw[hc it (by simp[Op.operands])]
 case extract t i=>unfold zA;rw[hc t (by simp[Op.operands])]
 case call c=>
  unfold sO
  rw[Nj c.args.toList (fun x hx=>hc x (by simp only[Op.operands,Call.operands,Array.mem_append];exact .inr (by simpa using hx)))]
  cases hcl:c.callee with
  |value f=>dsimp only;rw[hc f (by simp[Op.operands,Call.operands,hcl])]
  |invoke r m=>rfl
  |builtin b=>rfl
omit O in
theorem VC{o:Op}{k:gW}{b:MB}(h':MH)(ho:fD E ev o h=some (.new k b)):fD E ev o h'=some (.new k b):=by
 cases o<;>simp only[fD]at ho ⊢<;>first|exact ho|exact(Vg ho).elim|exact(Vh ho).elim|skip
 case load=>exact(lI (CV _ _) ho).elim
 case convert=>rcases CX ho with⟨v,e⟩|⟨S,D,e,T,b,-,-,-,-,-,-,-,e⟩|⟨S,D,e1,e2,T,xv,-,-,-,-,-,-,-,-,hm⟩<;>first|cases e|(obtain⟨_,_,_,_,_,_,_,_,-,-,-,e⟩:=zJ hm;cases e)
 case lookup=>exact(lI (CW _ _ _ _) ho).elim
 case call=>exact(Vj ho).elim
end
end Go.aI
namespace Go.aI
open Go.RowKit
theorem ajg(p:PE)(l:List PE):(Ci p l).Perm (p::l):=by
 induction l with
 |nil=>exact .refl _
 |cons q l ih=>
  show(Bool.rec (p::q::l) (q::Ci p l) (Lp p.pre (q::l)):List PE).Perm _
  cases Lp p.pre (q::l)with
  |false=>exact .refl _
  |true=>exact(ih.cons q).trans (.swap _ _ _)
theorem ajh(l:List PE):∀acc,(Cj l acc).Perm (l++acc):=by
 induction l with
 |nil=>intro acc;exact .refl _
 |cons p l ih=>
  intro acc
  show(Cj l (Bool.rec (acc++[p]) (Ci p acc) (floats p.o))).Perm _
  refine(ih _).trans ?_
  have:(Bool.rec (acc++[p]) (Ci p acc) (floats p.o):List PE).Perm (p::acc):=by
   cases floats p.o with
   |false=>exact List.perm_append_comm
   |true=>exact ajg p acc
  refine(this.append_left l).trans ?_
  exact List.perm_middle
def Down(ops:Array Oper)(listed:Array Bool):Prop:=∀k o,ops[k]?=some o→listed.getD k false=true→∀e∈o.after,Region.binds .any e=true→listed.getD e.on false=true
def Di(ops:Array Oper)(mask:Nat)(o:Oper):Prop:=
 ∀listed,Down ops listed→(∀e∈o.after,Region.binds .any e=true→listed.getD e.on false=true)→∀i,mask.testBit i=true→listed.getD i false=true
theorem aji(ms:List Nat)(e:Edge)(es:List Edge):oV ms (e::es) =
  Bool.rec (oV ms es) (Nat.lor (oV ms es) (Nat.lor (Nat.shiftLeft 1 e.on) (match iU ms e.on with|some m=>m|none=>0))) (Region.binds .any e):=rfl
theorem ajj(ms:List Nat):∀(es:List Edge) (i:Nat),(oV ms es).testBit i=true→∃e∈es,Region.binds .any e=true∧(e.on=i∨∃m,ms[e.on]?=some m∧m.testBit i=true):=by
 intro es
 induction es with
 |nil=>
   intro i h;have e:oV ms []=0:=rfl
   rw[e]at h;simp at h
 |cons e es ih=>
  intro i h
  rw[aji]at h
  cases hb:Region.binds .any e with
  |false=>
   rw[hb]at h
   obtain⟨e',h1,h2⟩:=ih i h
   exact⟨e',by simp[h1],h2⟩
  |true=>
   rw[hb]at h
   have h:((oV ms es) ||| ((1 <<< e.on) ||| (match iU ms e.on with|some m=>m|none=>0))).testBit i=true:=h
   rw[Nat.testBit_or,Nat.testBit_or,Bool.or_eq_true,Bool.or_eq_true]at h
   rcases h with h|h|h
   ·obtain⟨e',h1,h2⟩:=ih i h
    exact⟨e',by simp[h1],h2⟩
   ·refine⟨e,by simp,hb,.inl ?_⟩
    rw[Nat.one_shiftLeft,Nat.testBit_two_pow]at h
    simpa using h
   ·refine⟨e,by simp,hb,.inr ?_⟩
    rw[uZ]at h
    split at h
    ·rename_i m hm;exact⟨m,hm,h⟩
    ·simp at h
theorem ajk(o:Oper)(l:List Oper)(i:Nat)(ms:List Nat):uU (o::l) i ms=⟨i,o,oV ms o.after.toList⟩::uU l (i+1) (ms++[oV ms o.after.toList]):=rfl
theorem ajl(ops:Array Oper):∀(l:List Oper) (i:Nat) (ms:List Nat),ms.length=i→(∀(j:Nat),l[j]?=ops[i+j]?)→(∀(j:Nat) (m:Nat),ms[j]?=some m→∃o,ops[j]?=some o∧Di ops m o)→
  (uU l i ms).map (·.i)=List.range' i l.length∧∀p∈uU l i ms,ops[p.i]?=some p.o∧Di ops p.pre p.o:=by
 intro l
 induction l with
 |nil=>intro i ms _ _ _;exact⟨rfl,fun p hp=>by cases hp⟩
 |cons o l ih=>
  intro i ms hlen hl hms
  rw[ajk]
  have ho:ops[i]?=some o:=by have:=hl 0;simpa using this.symm
  have hw:Di ops (oV ms o.after.toList) o:=by
   intro listed hd he k hk
   obtain⟨e,h1,h2,h3⟩:=ajj ms _ k hk
   have h1:e∈o.after:=by simpa using h1
   rcases h3 with rfl|⟨m,hm,hmk⟩
   ·exact he e h1 h2
   ·obtain⟨o',ho',hw'⟩:=hms _ m hm
    exact hw' listed hd (fun e' he' hb'=>hd _ o' ho' (he e h1 h2) e' he' hb') k hmk
  obtain⟨h1,h2⟩:=ih (i+1) (ms++[oV ms o.after.toList]) (by simp[hlen]) (fun j=>by have:=hl (j+1);simpa[Nat.add_assoc,Nat.add_comm 1 j]using this) (fun j m hm=>by
   by_cases hj:j<ms.length
   ·rw[List.getElem?_append_left hj]at hm;exact hms j m hm
   ·rw[List.getElem?_append_right (by omega)]at hm
    have hj0:j-ms.length=0:=by
     have:=(List.getElem?_eq_some_iff.1 hm).1
     simp at this;omega
    rw[hj0]at hm
    simp at hm
    subst hm
    exact⟨o,by rw[show j=i by omega];exact ho,hw⟩)
  refine⟨by simp[h1,List.range'_succ],fun p hp=>?_⟩
  rcases List.mem_cons.1 hp with rfl|hp
  ·exact⟨ho,hw⟩
  ·exact h2 p hp
structure ajm(ops:Array Oper)(l:List PE):Prop where
 idx:(l.map (·.i)).Perm (List.range ops.size)
 el:∀p∈l,ops[p.i]?=some p.o∧Di ops p.pre p.o
 ok:xx ops l=true
theorem ajn{ops:Array Oper}{l:List PE}(h:FP ops=some l):ajm ops l:=by
 unfold FP at h
 cases hc:xx ops (Cj (uU ops.toList 0 []) [])with
 |false=>rw[hc]at h;cases h
 |true=>
  rw[hc]at h
  cases h
  have hp:=ajh (uU ops.toList 0 []) []
  rw[List.append_nil]at hp
  obtain⟨h1,h2⟩:=ajl ops ops.toList 0 [] rfl (fun j=>by simp) (fun j m hm=>by simp at hm)
  refine⟨?_,fun p hpm=>h2 p (hp.mem_iff.1 hpm),hc⟩
  have:=hp.map (·.i)
  rw[h1,←List.range_eq_range']at this
  simpa using this
theorem Dj:∀a b,ng a b=true→a=b
 | [],[],_=>rfl
 | [],_::_,h=>by simp[ng]at h
 |_::_,[],h=>by simp[ng]at h
 |a::x,b::y,h=>by
  simp only[ng,Bool.and_eq_true,Nat.beq_eq]at h
  rw[h.1,Dj x y h.2]
mutual
theorem VD:∀u v,eqv u v=true→u=v
 | .fn f a b,.fn g c d,h=>by
  simp only[eqv,Bool.and_eq_true,Nat.beq_eq]at h
  rw[h.1,zS a c h.2.1,zS b d h.2.2]
 | .agg a,.agg b,h=>by simp only[eqv]at h;rw[zS a b h]
 | .bY a,.bY b,h=>by simp only[eqv]at h;rw[zS a b h]
 | .bool a,.bool b,h=>by simp only[eqv,beq_iff_eq]at h;rw[h]
 | .int k a,.int k' b,h=>by simp only[eqv,Bool.and_eq_true,decide_eq_true_eq]at h;rw[h.1,h.2]
 | .str a,.str b,h=>by simp only[eqv]at h;rw[Dj a b h]
 | .dB,.dB,_=>rfl
 | .bC,.bC,_=>rfl
 | .bV,.bV,_=>rfl
 | .di,.di,_=>rfl
 | .dR,.dR,_=>rfl
 | .ptr a b,.ptr c d,h=>by simp only[eqv,Bool.and_eq_true,Nat.beq_eq]at h;rw[h.1,h.2]
 | .mp a,.mp b,h=>by simp only[eqv,Nat.beq_eq]at h;rw[h]
 | .opq a,.opq b,h=>by simp only[eqv,Nat.beq_eq]at h;rw[h]
 | .sl a b c d,.sl a' b' c' d',h=>by simp only[eqv,Bool.and_eq_true,Nat.beq_eq]at h;rw[h.1.1,h.1.2,h.2.1,h.2.2]
 | .bQ a b c d,.bQ a' b' c' d',h=>by simp only[eqv,Bool.and_eq_true,Nat.beq_eq]at h;rw[h.1.1,h.1.2,h.2.1,h.2.2]
 | .sle a b c d,.sle a' b' c' d',h=>by simp only[eqv,Bool.and_eq_true,Nat.beq_eq]at h;rw[h.1.1,h.1.2,h.2.1,h.2.2]
 | .dh a,.dh b,h=>by simp only[eqv,Nat.beq_eq]at h;rw[h]
 | .bool ..,.int ..,h | .bool ..,.str ..,h | .bool ..,.dB,h | .bool ..,.ptr ..,h | .bool ..,.bC,h | .bool ..,.sl ..,h | .bool ..,.bQ ..,h | .bool ..,.sle ..,h | .bool ..,.bV,h | .bool ..,.mp ..,h | .bool ..,.fn ..,h | .bool ..,.dh ..,h | .bool ..,.di,h | .bool ..,.dR,h | .bool ..,.agg ..,h | .bool ..,.bY ..,h=>by simp[eqv]at h
 | .int ..,.bool ..,h | .int ..,.str ..,h | .int ..,.dB,h | .int ..,.ptr ..,h | .int ..,.bC,h | .int ..,.sl ..,h | .int ..,.bQ ..,h | .int ..,.sle ..,h | .int ..,.bV,h | .int ..,.mp ..,h | .int ..,.fn ..,h | .int ..,.dh ..,h | .int ..,.di,h | .int ..,.dR,h | .int ..,.agg ..,h | .int ..,.bY ..,h=>by simp[eqv]at h
 | .str ..,.bool ..,h | .str ..,.int ..,h | .str ..,.dB,h | .str ..,.ptr ..,h | .str ..,.bC,h | .str ..,.sl ..,h | .str ..,.bQ ..,h | .str ..,.sle ..,h | .str ..,.bV,h | .str ..,.mp ..,h | .str ..,.fn ..,h | .str ..,.dh ..,h | .str ..,.di,h | .str ..,.dR,h | .str ..,.agg ..,h | .str ..,.bY ..,h=>by simp[eqv]at h
 | .dB,.bool ..,h | .dB,.int ..,h | .dB,.str ..,h | .dB,.ptr ..,h | .dB,.bC,h | .dB,.sl ..,h | .dB,.bQ ..,h | .dB,.sle ..,h | .dB,.bV,h | .dB,.mp ..,h | .dB,.fn ..,h | .dB,.dh ..,h | .dB,.di,h | .dB,.dR,h | .dB,.agg ..,h | .dB,.bY ..,h=>by simp[eqv]at h
 | .ptr ..,.bool ..,h | .ptr ..,.int ..,h | .ptr ..,.str ..,h | .ptr ..,.dB,h | .ptr ..,.bC,h | .ptr ..,.sl ..,h | .ptr ..,.bQ ..,h | .ptr ..,.sle ..,h | .ptr ..,.bV,h | .ptr ..,.mp ..,h | .ptr ..,.fn ..,h | .ptr ..,.dh ..,h | .ptr ..,.di,h | .ptr ..,.dR,h | .ptr ..,.agg ..,h | .ptr ..,.bY ..,h=>by simp[eqv]at h
 | .bC,.bool ..,h | .bC,.int ..,h | .bC,.str ..,h | .bC,.dB,h | .bC,.ptr ..,h | .bC,.sl ..,h | .bC,.bQ ..,h | .bC,.sle ..,h | .bC,.bV,h | .bC,.mp ..,h | .bC,.fn ..,h | .bC,.dh ..,h | .bC,.di,h | .bC,.dR,h | .bC,.agg ..,h | .bC,.bY ..,h=>by simp[eqv]at h
 | .sl ..,.bool ..,h | .sl ..,.int ..,h | .sl ..,.str ..,h | .sl ..,.dB,h | .sl ..,.ptr ..,h | .sl ..,.bC,h | .sl ..,.bQ ..,h | .sl ..,.sle ..,h | .sl ..,.bV,h | .sl ..,.mp ..,h | .sl ..,.fn ..,h | .sl ..,.dh ..,h | .sl ..,.di,h | .sl ..,.dR,h | .sl ..,.agg ..,h | .sl ..,.bY ..,h=>by simp[eqv]at h
 | .bQ ..,.bool ..,h | .bQ ..,.int ..,h | .bQ ..,.str ..,h | .bQ ..,.dB,h | .bQ ..,.ptr ..,h | .bQ ..,.bC,h | .bQ ..,.sl ..,h | .bQ ..,.sle ..,h | .bQ ..,.bV,h | .bQ ..,.mp ..,h | .bQ ..,.fn ..,h | .bQ ..,.dh ..,h | .bQ ..,.di,h | .bQ ..,.dR,h | .bQ ..,.agg ..,h | .bQ ..,.bY ..,h=>by simp[eqv]at h
 | .bV,.bool ..,h | .bV,.int ..,h | .bV,.str ..,h | .bV,.dB,h | .bV,.ptr ..,h | .bV,.bC,h | .bV,.sl ..,h | .bV,.bQ ..,h | .bV,.sle ..,h | .bV,.mp ..,h | .bV,.fn ..,h | .bV,.dh ..,h | .bV,.di,h | .bV,.dR,h | .bV,.agg ..,h | .bV,.bY ..,h=>by simp[eqv]at h
 | .mp ..,.bool ..,h | .mp ..,.int ..,h | .mp ..,.str ..,h | .mp ..,.dB,h | .mp ..,.ptr ..,h | .mp ..,.bC,h | .mp ..,.sl ..,h | .mp ..,.bQ ..,h | .mp ..,.sle ..,h | .mp ..,.bV,h | .mp ..,.fn ..,h | .mp ..,.dh ..,h | .mp ..,.di,h | .mp ..,.dR,h | .mp ..,.agg ..,h | .mp ..,.bY ..,h=>by simp[eqv]at h
 | .fn ..,.bool ..,h | .fn ..,.int ..,h | .fn ..,.str ..,h | .fn ..,.dB,h | .fn ..,.ptr ..,h | .fn ..,.bC,h | .fn ..,.sl ..,h | .fn ..,.bQ ..,h | .fn ..,.sle ..,h | .fn ..,.bV,h | .fn ..,.mp ..,h | .fn ..,.dh ..,h | .fn ..,.di,h | .fn ..,.dR,h | .fn ..,.agg ..,h | .fn ..,.bY ..,h=>by simp[eqv]at h
 | .di,.bool ..,h | .di,.int ..,h | .di,.str ..,h | .di,.dB,h | .di,.ptr ..,h | .di,.bC,h | .di,.sl ..,h | .di,.bQ ..,h | .di,.sle ..,h | .di,.bV,h | .di,.mp ..,h | .di,.fn ..,h | .di,.dh ..,h | .di,.dR,h | .di,.agg ..,h | .di,.bY ..,h=>by simp[eqv]at h
 | .dR,.bool ..,h | .dR,.int ..,h | .dR,.str ..,h | .dR,.dB,h | .dR,.ptr ..,h | .dR,.bC,h | .dR,.sl ..,h | .dR,.bQ ..,h | .dR,.sle ..,h | .dR,.bV,h | .dR,.mp ..,h | .dR,.fn ..,h | .dR,.dh ..,h | .dR,.di,h | .dR,.agg ..,h | .dR,.bY ..,h=>by simp[eqv]at h
 | .agg ..,.bool ..,h | .agg ..,.int ..,h | .agg ..,.str ..,h | .agg ..,.dB,h | .agg ..,.ptr ..,h | .agg ..,.bC,h | .agg ..,.sl ..,h | .agg ..,.bQ ..,h | .agg ..,.sle ..,h | .agg ..,.bV,h | .agg ..,.mp ..,h | .agg ..,.fn ..,h | .agg ..,.dh ..,h | .agg ..,.di,h | .agg ..,.dR,h | .agg ..,.bY ..,h=>by simp[eqv]at h
 | .bY ..,.bool ..,h | .bY ..,.int ..,h | .bY ..,.str ..,h | .bY ..,.dB,h | .bY ..,.ptr ..,h | .bY ..,.bC,h | .bY ..,.sl ..,h | .bY ..,.bQ ..,h | .bY ..,.sle ..,h | .bY ..,.bV,h | .bY ..,.mp ..,h | .bY ..,.fn ..,h | .bY ..,.dh ..,h | .bY ..,.di,h | .bY ..,.dR,h | .bY ..,.agg ..,h=>by simp[eqv]at h
 | .sle ..,.bool ..,h | .sle ..,.int ..,h | .sle ..,.str ..,h | .sle ..,.dB,h | .sle ..,.ptr ..,h | .sle ..,.bC,h | .sle ..,.sl ..,h | .sle ..,.bQ ..,h | .sle ..,.bV,h | .sle ..,.mp ..,h | .sle ..,.fn ..,h | .sle ..,.dh ..,h | .sle ..,.di,h | .sle ..,.dR,h | .sle ..,.agg ..,h | .sle ..,.bY ..,h=>by simp[eqv]at h
 | .dh ..,.bool ..,h | .dh ..,.int ..,h | .dh ..,.str ..,h | .dh ..,.dB,h | .dh ..,.ptr ..,h | .dh ..,.bC,h | .dh ..,.sl ..,h | .dh ..,.bQ ..,h | .dh ..,.sle ..,h | .dh ..,.bV,h | .dh ..,.mp ..,h | .dh ..,.fn ..,h | .dh ..,.di,h | .dh ..,.dR,h | .dh ..,.agg ..,h | .dh ..,.bY ..,h=>by simp[eqv]at h
 | .opq ..,.bool ..,h | .opq ..,.int ..,h | .opq ..,.str ..,h | .opq ..,.dB,h | .opq ..,.ptr ..,h | .opq ..,.bC,h | .opq ..,.sl ..,h | .opq ..,.bQ ..,h | .opq ..,.sle ..,h | .opq ..,.bV,h | .opq ..,.mp ..,h | .opq ..,.fn ..,h | .opq ..,.dh ..,h | .opq ..,.di,h | .opq ..,.dR,h | .opq ..,.agg ..,h | .opq ..,.bY ..,h=>by simp[eqv]at h
 | .bool ..,.opq ..,h | .int ..,.opq ..,h | .str ..,.opq ..,h | .dB,.opq ..,h | .ptr ..,.opq ..,h | .bC,.opq ..,h | .sl ..,.opq ..,h | .bQ ..,.opq ..,h | .sle ..,.opq ..,h | .bV,.opq ..,h | .mp ..,.opq ..,h | .fn ..,.opq ..,h | .dh ..,.opq ..,h | .di,.opq ..,h | .dR,.opq ..,h | .agg ..,.opq ..,h | .bY ..,.opq ..,h=>by simp[eqv]at h
theorem zS:∀a b,oU a b=true→a=b
 | [],[],_=>rfl
 | [],_::_,h=>by simp[oU]at h
 |_::_,[],h=>by simp[oU]at h
 |a::x,b::y,h=>by
  simp only[oU,Bool.and_eq_true]at h
  rw[VD a b h.1,zS x y h.2]
end
theorem VE:∀a b,fO a b=true→a=b
 | .cells a t e o,.cells b t' e' o',h=>by
  simp only[fO,Bool.and_eq_true,Nat.beq_eq,beq_iff_eq]at h
  rw[zS a b h.1,h.2.1.1,h.2.1.2,h.2.2]
 | .map [] c,.map [] c',h=>by simp only[fO,Nat.beq_eq]at h;rw[h]
 | .map [] _,.map (_::_) _,h=>by simp[fO]at h
 | .map (_::_) _,b,h=>by cases b<;>simp[fO]at h
 | .cells ..,.map ..,h | .cells ..,.iter ..,h | .cells ..,.loop ..,h | .cells ..,.pU,h | .cells ..,.dead,h=>by simp[fO]at h
 | .map [] _,.cells ..,h | .map [] _,.iter ..,h | .map [] _,.loop ..,h | .map [] _,.pU,h | .map [] _,.dead,h=>by simp[fO]at h
 | .iter ..,b,h=>by cases b<;>simp[fO]at h
 | .loop ..,b,h=>by cases b<;>simp[fO]at h
 | .pU,b,h=>by cases b<;>simp[fO]at h
 | .dead,b,h=>by cases b<;>simp[fO]at h
variable [O:dw]
omit O in
theorem GR{d:Option Tmp}{l:List Tmp}(h:kD d l=false):∀t,d=some t→t∉l:=by
 rintro t rfl ht
 simp only[kD,List.any_eq_false]at h
 exact h t ht (Nat.beq_refl t)
omit O in
theorem ajo{a b:Option Tmp}(h:uV a b=false):∀t,a=some t→b≠some t:=by
 rintro t rfl rfl
 simp[uV,Nat.beq_refl]at h
def Nl(ops:Array Oper)(p:PE):Prop:=xu p.o=true∧kD p.o.dst (p.o.looksAt ops)=false∧Lr p=true
omit O in
theorem ajp(ops:Array Oper):∀l,xx ops l=true↔(∀p∈l,Nl ops p)∧l.Pairwise (fun p q=>xq ops p q=true):=by
 intro l
 induction l with
 |nil=>simp[xx]
 |cons p l ih=>
  simp only[xx,Bool.and_eq_true,ih,List.forall_mem_cons,List.pairwise_cons,List.all_eq_true,Nl,Bool.not_eq_true']
  constructor
  ·rintro⟨⟨a,b,c⟩,d,e,f⟩;exact⟨⟨⟨a,b,c⟩,e⟩,d,f⟩
  ·rintro⟨⟨⟨a,b,c⟩,e⟩,d,f⟩;exact⟨⟨a,b,c⟩,d,e,f⟩
omit O in
theorem VF{ops:Array Oper}{p q:PE}(h:xq ops p q=true)(hq:floats q.o=true) :
  kD q.o.dst (p.o.looksAt ops)=false∧uV p.o.dst q.o.dst=false∧(q.pre.testBit p.i=true∨floats p.o=true∧kD p.o.dst (q.o.looksAt ops)=false):=by
 simp only[xq,hq,Bool.not_true,Bool.and_false,Bool.false_or,Bool.and_eq_true,Bool.or_eq_true,Bool.not_eq_true']at h
 exact⟨h.1.1,h.1.2,h.2⟩
omit O in
theorem Np{ops:Array Oper}{p q:PE}(h:xq ops p q=true)(hw:q.pre.testBit p.i=false) :
  kD q.o.dst (p.o.looksAt ops)=false∧uV p.o.dst q.o.dst=false∧floats p.o=true∧kD p.o.dst (q.o.looksAt ops)=false:=by
 simp only[xq,hw,Bool.false_and,Bool.false_or,Bool.and_eq_true,Bool.not_eq_true']at h
 exact⟨h.1.1,h.1.2,h.2.1,h.2.2⟩
omit O in
theorem VG{ops:Array Oper}{o:Oper}{t:Tmp}(h:Operand.tmp t∈o.op.operands):t∈o.looksAt ops:=
 List.mem_append_left _ (List.mem_filterMap.2 ⟨.tmp t,by simpa using h,rfl⟩)
omit O in
theorem xM(m:MA)(dst:Option Tmp)(v:MV):(m.put dst v).nt=m.nt:=by
 cases dst with
 |none=>rfl
 |some d=>unfold MA.put;dsimp only;cases Nat.blt d m.nt<;>rfl
omit O in
theorem GU(m:MA)(dst:Option Tmp)(v:MV):(m.put dst v).defs=m.defs:=by
 cases dst with
 |none=>rfl
 |some d=>unfold MA.put;dsimp only;cases Nat.blt d m.nt<;>rfl
omit O in
theorem Dk(m:MA){dst:Option Tmp}(v:MV){k:Nat}(h:dst≠some k):(m.put dst v).tmps.get k=m.tmps.get k:=by
 cases dst with
 |none=>rfl
 |some d=>
  unfold MA.put;dsimp only
  cases Nat.blt d m.nt with
  |false=>rfl
  |true=>
   show(m.tmps.put d v).get k=_
   rw[Tr.get_put,if_neg (fun e=>h (by rw[e]))]
omit O in
theorem VH(m:MA)(v:MV){k:Nat}(h:k<m.nt):(m.put (some k) v).tmps.get k=some v:=by
 unfold MA.put;dsimp only
 rw[CS h]
 show(m.tmps.put k v).get k=_
 rw[Tr.get_put,if_pos rfl]
omit O in
theorem VI(m:MA)(v:MV){k:Nat}(h:¬k<m.nt):m.put (some k) v=m:=by
 unfold MA.put;dsimp only
 cases hb:Nat.blt k m.nt with
 |true=>exact absurd (jf hb) h
 |false=>rfl
def Has(m:MA)(dst:Option Tmp)(v:MV):Prop:=∀d,dst=some d→d<m.nt→m.tmps.get d=some v
omit O in
theorem Nq(m:MA)(dst:Option Tmp)(v:MV):Has (m.put dst v) dst v:=by
 rintro d rfl hd
 rw[xM]at hd
 exact VH m v hd
omit O in
theorem Has.put{m:MA}{dst dst':Option Tmp}{v v':MV}(h:Has m dst v)(hs:uV dst dst'=false):Has (m.put dst' v') dst v:=by
 intro d hd hlt
 rw[xM]at hlt
 rw[Dk m v' (ajo hs d hd)]
 exact h d hd hlt
section
variable {E:Env}
omit O in
theorem Dl(m:MA){ops:Array Oper}{o:Oper}{dst:Option Tmp}(v:MV)(h:MH)(hd:kD dst (o.looksAt ops)=false):fD E ((m.put dst v).eval E.G) o.op h=fD E (m.eval E.G) o.op h:=by
 refine VB o.op fun x hx=>?_
 cases x with
 |tmp t=>exact Dk m v (fun e=>GR hd t e (VG hx))
 |const _=>rfl
 |global _=>rfl
 |func _=>rfl
omit O in
theorem zT(m:MA){ops:Array Oper}{o:Oper}{dst:Option Tmp}(v:MV)(hd:kD dst (o.looksAt ops)=false):lF ops (m.put dst v) o=lF ops m o:=by
 unfold lF
 cases hg:o.guard with
 |none=>rfl
 |some gw=>
  obtain⟨g,want⟩:=gw
  dsimp only
  rw[vC]
  cases hgo:ops[g]? with
  |none=>rfl
  |some og=>
   dsimp only
   cases ht:og.dst with
   |none=>rfl
   |some t=>
    dsimp only
    rw[Dk m v (fun e=>GR hd t e (by simp[Oper.looksAt,hg,hgo,ht]))]
def Still(E:Env)(ev:Ev)(h:MH)(g:FL):Prop:=
 match g.r with
 | .skip=>True
 | .look v=>fD E ev g.p.o.op h=some (.val v)
 | .ny id _ b=>h.get id=some b
omit O in
theorem VJ{ev:Ev}{h:MH}{mask:Nat}{g:FL}(hs:zC E ev h mask g=true)(hm:mask.testBit g.p.i=false):Still E ev h g:=by
 unfold zC at hs
 rw[show Nat.testBit mask g.p.i=false from hm]at hs
 unfold Still
 cases hr:g.r with
 |skip=>trivial
 |look v=>
  simp only[hr]at hs ⊢
  split at hs
  ·rename_i u hu;rw[hu,VD u v hs]
  ·cases hs
 |ny id k b=>
  simp only[hr]at hs ⊢
  split at hs
  ·rename_i c hc;rw[hc,VE c b hs]
  ·cases hs
omit O in
theorem ajq(ev:Ev)(h:MH)(mask:Nat)(f:FL)(fl:List FL):sS E ev h mask (f::fl)=Bool.rec false (sS E ev h mask fl) (zC E ev h mask f):=rfl
omit O in
theorem VK{ev:Ev}{h:MH}{mask:Nat}:∀{fl:List FL},sS E ev h mask fl=true→∀g∈fl,zC E ev h mask g=true:=by
 intro fl
 induction fl with
 |nil=>intro _ g hg;cases hg
 |cons f fl ih=>
  intro hs g hg
  rw[ajq]at hs
  cases hf:zC E ev h mask f with
  |false=>rw[hf]at hs;cases hs
  |true=>
   rw[hf]at hs
   rcases List.mem_cons.1 hg with rfl|hg
   ·exact hf
   ·exact ih hs g hg
omit O in
theorem ajr(mask:Nat)(f:FL)(fl:List FL):qF mask (f::fl)=Bool.rec (f::qF mask fl) (qF mask fl) (Nat.testBit mask f.p.i):=rfl
omit O in
theorem ajs{mask:Nat}:∀{fl:List FL} {g:FL},g∈fl→mask.testBit g.p.i=false→g∈qF mask fl:=by
 intro fl
 induction fl with
 |nil=>intro g hg;cases hg
 |cons f fl ih=>
  intro g hg hm
  rw[ajr]
  rcases List.mem_cons.1 hg with rfl|hg
  ·rw[show Nat.testBit mask g.p.i=false from hm];exact List.mem_cons_self ..
  ·cases Nat.testBit mask f.p.i with
   |false=>exact List.mem_cons_of_mem _ (ih hg hm)
   |true=>exact ih hg hm
structure zU(E:Env)(ops:Array Oper)(V:Nat→Prop)(n0:Nat)(m:MA)(h:MH)(g:FL):Prop where
 fl:floats g.p.o=true
 sk:g.r=.skip→lF ops m g.p.o=some false∧Has m g.p.o.dst jL
 lk:∀v,g.r=.look v→lF ops m g.p.o=some true∧fD E (m.eval E.G) g.p.o.op h=some (.val v)∧Has m g.p.o.dst v
 al:∀id k b,g.r=.ny id k b→lF ops m g.p.o=some true∧fD E (m.eval E.G) g.p.o.op h=some (.new k b)∧Has m g.p.o.dst (k.at id)∧
  ¬V id∧id<h.nx∧E.G.ro≤id∧n0≤id∧h.get id=some b
omit O in
theorem zU.put{ops:Array Oper}{V V':Nat→Prop}{n0:Nat}{m:MA}{h h':MH}{g:FL}(hg:zU E ops V n0 m h g){dst:Option Tmp}{v:MV}(hd:kD dst (g.p.o.looksAt ops)=false)
  (hs:uV g.p.o.dst dst=false) (hst:Still E ((m.put dst v).eval E.G) h' g) (hV:∀id,V' id→V id∨h.nx≤id) (hnx:h.nx≤h'.nx):zU E ops V' n0 (m.put dst v) h' g:=by
 unfold Still at hst
 refine⟨hg.fl,fun hr=>?_,fun u hr=>?_,fun id k b hr=>?_⟩
 ·obtain⟨h1,h2⟩:=hg.sk hr
  exact⟨by rw[zT m v hd];exact h1,h2.put hs⟩
 ·obtain⟨h1,h2,h3⟩:=hg.lk u hr
  simp only[hr]at hst
  exact⟨by rw[zT m v hd];exact h1,hst,h3.put hs⟩
 ·obtain⟨h1,h2,h3,h4,h5,h6,h7,h8⟩:=hg.al id k b hr
  simp only[hr]at hst
  refine⟨by rw[zT m v hd];exact h1,?_,h3.put hs,fun hv=>?_,Nat.lt_of_lt_of_le h5 hnx,h6,h7,hst⟩
  ·rw[Dl m v h' hd];exact VC h' h2
  ·rcases hV id hv with hv|hv
   ·exact h4 hv
   ·omega
end
end Go.aI
