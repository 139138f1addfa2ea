/- A part of the proof. -/
import Derived.Test.YtibhckkjciflaaaGreatDoorA06
import Derived.TacticsIn
import Derived.LoopNIn
import Derived.RangeFuncIn
import Derived.RangeFuncLeaves
namespace Go.aI
variable [O:dw]
open Go.RowKit
section ops
variable {E:Env} {P:Program} {B:Nat→Prop} {W0:World} {σ:Sg} {V:Nat→Prop} {h:MH} {w:World} {ev:Ev} {ρ:Operand→Value}
theorem aiz{e:TypeId}{es n:Nat}{s:MV}{c:List MV}{r:MV×MH}(ho:BX E e es s n c h=some r):∃a m cp,ae σ s=.slice a m cp:=by
 cases s<;>simp only[BX]at ho<;>first|(cases ho;done)|exact⟨_,_,_,rfl⟩
theorem aiA(R:Rel E.G B W0 σ V h w){es n:Nat}{x:MV}{c:List MV}(x1:wf σ V x)(hn:nZ h x=some n)(hc:mZ es h x=some c):c.length=n*es:=by
 cases x<;>simp only[mZ]at hc<;>simp only[nZ]at hn<;>first|(cases hc;done)|skip
 ·cases hc;cases hn;simp
 iterate 2
  ·cases hn
   simp only[wf]at x1
   exact(vk R x1.1 hc).2.2.1
 ·cases hc;cases hn;simp
theorem aiB(hE:bT E P)(R:Rel E.G B W0 σ V h w)(hW:∀k,B k→k<W0.heap.size){ats:Array TypeId}{ty:TypeId}{s x:MV}(s1:wf σ V s)(x1:wf σ V x){v:MV}{h':MH}
  (ho:Fp E ats.toList s x h=some (v,h')):gK E.G B W0 σ V h h' (fun σ' V' w'=>wf σ' V' v∧(Builtin.append_ ats ty ⟨[ae σ s,ae σ x]⟩).run P w=.ok (ae σ' v) w'):=by
 unfold Fp at ho
 split at ho
 ·rename_i st xt hst hxt
  rw[vC]at hst hxt
  split at ho
  ·rename_i S X hS hX
   have uS:=(hE.ty st S hS).2
   have uX:=(hE.ty xt X hX).2
   split at ho
   ·rename_i e hd
    rw[hd]at uS
    split at ho
    ·cases ho
    ·rename_i Te hTe
     obtain⟨ti,tu⟩:=hE.ty e Te hTe
     cases hc:(and (Nat.blt 0 Te.info.size) (Nat.ble Te.info.bytes 65536))with
     |false=>rw[hc]at ho;cases ho
     |true=>
      rw[hc]at ho
      simp only[cond_true]at ho
      obtain⟨c1,c2⟩:=dL hc
      have c1:=jf c1
      have c2:=Nat.le_of_ble_eq_true c2
      split at ho
      ·rename_i n c z hsrc hz
       obtain⟨a,m,cp,hse⟩:=aiz (σ:=σ) ho
       obtain⟨mz,m1,m2,m3,m4,m5⟩:=xG (σ:=σ) (V:=V) hE hTe hz
       have pre:∀(zeros:Bool) (App:Sem (Array Value)),
         (∀w' u,(sZ e zeros a m cp n Te.info.size (ae σ s) (ae σ x) App).run P w=.ok u w'→(Builtin.append_ ats ty ⟨[ae σ s,ae σ x]⟩).run P w=.ok u w')→
         (∀w',(w'=w∨w'=w.drew)→App.run P w'=.ok ⟨aF σ c⟩ w')→wfs σ V c→ones c=true→c.length=n*Te.info.size→
         gK E.G B W0 σ V h h' (fun σ' V' w'=>wf σ' V' v∧(Builtin.append_ ats ty ⟨[ae σ s,ae σ x]⟩).run P w=.ok (ae σ' v) w'):=by
        intro zeros App hpre happ hc1 hc2 hc3
        refine(aiy (zeros:=zeros) (x:=ae σ x) hE R hW hTe c2 hz s1 hse happ hc1 hc2 hc3 ho).mono ?_
        exact fun _ _ w' _ _ hk=>⟨hk.1,hpre w' _ hk.2⟩
       unfold UC at hsrc
       split at hsrc
       ·
        rename_i kx hdx
        rw[hdx]at uX
        split at hsrc
        ·rename_i k nn z' hz'
         rw[hz]at hz';cases hz'
         cases hb:Nat.ble nn 1048576 with
         |false=>rw[hb]at hsrc;cases hsrc
         |true=>
          rw[hb]at hsrc
          cases hsrc
          have hb:=Nat.le_of_ble_eq_true hb
          have hw:IntKind.i64.wrap (Int.ofNat n)=(n:Int):=wrap_small (by omega)
          have hmul:n*Te.info.bytes≤1048576*65536:=Nat.mul_le_mul hb c2
          have aiD:∀w':World,(if n*Te.info.size=0 then pure #[]else do pure (Builtin.zeroCells (←zeroValue e).cells n):Sem (Array Value)).run P w'=.ok ⟨aF σ (BU n z)⟩ w':=by
           intro w'
           rw[zG]
           by_cases h0:n*Te.info.size=0
           ·rw[if_pos h0]
            have:(List.replicate n z).flatten=[]:=List.eq_nil_of_length_eq_zero (by simp[m5,h0])
            rw[this];rfl
           ·rw[if_neg h0,Sem.bind_ok (m1 w'),m2]
            simp only[Sem.run_pure,Builtin.zeroCells]
            congr 1
            have hzs:(⟨aF σ z⟩:Array Value).size=Te.info.size:=by rw[dS];simpa using m5
            have:=Gn (σ:=σ) (n:=n) m5
            rw[hzs]at this ⊢
            exact this
          refine pre true (if n*Te.info.size=0 then pure #[]else do pure (Builtin.zeroCells (←zeroValue e).cells n)) (fun w' u hu=>?_) (fun w' _=>aiD w') (by rw[zG];exact Me m3) (by rw[zG];exact MC m4) (by rw[zG];simp[m5])
          unfold Builtin.append_
          simp only[hst,hxt]
          rw[show((⟨[ae σ s,ae σ (.int k (.ofNat n))]⟩:Array Value)[0]?:Option Value)=some (ae σ s) from rfl,show((⟨[ae σ s,ae σ (.int k (.ofNat n))]⟩:Array Value)[1]?:Option Value)=some (.int k (.ofNat n)) from rfl]
          dsimp only
          rw[Sem.bind_ok (dD uS w)]
          dsimp only
          rw[hse]
          dsimp only
          rw[Sem.bind_ok (sV ti w),Sem.bind_ok (dD uX w)]
          simp only[asInt,asIntOf,pure_bind,hw,if_true]
          rw[if_neg (by omega),Sem.bind_ok (CP ti w)]
          rw[if_neg (by
           have:((n:Int)*(Te.info.bytes:Int))=((n*Te.info.bytes:Nat):Int):=by simp
           rw[this];omega)]
          simp only[Int.toNat_natCast]
          rw[hse]at hu
          unfold sZ at hu
          simp only[Bool.not_true,Bool.false_eq_true,if_false,if_true,true_or,and_true]at hu ⊢
          exact hu
        ·cases hsrc
       ·
        rename_i hni
        have hcs:uT Te.info.size n h x=some c∧nZ h x=some n∧(∀id,x≠.mp id)∧x≠.bV∧c.length=n*Te.info.size:=by
         split at hsrc
         ·rename_i b
          cases hb:Nat.beq Te.info.size 1 with
          |false=>rw[hb]at hsrc;cases hsrc
          |true=>
           rw[hb]at hsrc
           cases hsrc
           have hb:=Nat.eq_of_beq_eq_true hb
           refine⟨?_,rfl,(fun id hid=>by cases hid),(fun hid=>by cases hid),?_⟩
           ·unfold uT
            dsimp only
            rw[jl,LG,if_pos (by simp)]
            simp
           ·rw[jl,hb,MI];simp
         ·rename_i hns
          split at hsrc
          ·rename_i n' c' hn' hc'
           cases hsrc
           have hl:=aiA R x1 hn' hc'
           refine⟨?_,hn',?_,?_,hl⟩
           ·unfold uT
            split
            ·exact absurd rfl (hns _)
            ·rw[hc']
             dsimp only
             rw[LG,if_pos (by rw[hl];exact Nat.le_refl _)]
             rw[List.take_of_length_le (by rw[hl];exact Nat.le_refl _)]
           ·rintro id rfl;simp[mZ]at hc'
           ·rintro rfl;simp[mZ]at hc'
          ·cases hsrc
        obtain⟨k1,k2,k3,k4,k5⟩:=hcs
        obtain⟨f1,f2,f3⟩:=MJ (P:=P) R x1 k1 (fun q hq=>by rw[k2]at hq;cases hq;exact Nat.le_refl _)
        obtain⟨-,-,f3'⟩:=MJ (P:=P) R.drew x1 k1 (fun q hq=>by rw[k2]at hq;cases hq;exact Nat.le_refl _)
        refine pre false (Builtin.firstCells Te.info.size n (ae σ x)) (fun w' u hu=>?_) (fun w' hw'=>by rcases hw' with rfl|rfl;exact f3;exact f3') f1 f2 k5
        have hln:=Vp (P:=P) (σ:=σ) (w:=w) k2 k3 k4
        unfold Builtin.append_
        simp only[hst,hxt]
        rw[show((⟨[ae σ s,ae σ x]⟩:Array Value)[0]?:Option Value)=some (ae σ s) from rfl,show((⟨[ae σ s,ae σ x]⟩:Array Value)[1]?:Option Value)=some (ae σ x) from rfl]
        dsimp only
        rw[Sem.bind_ok (dD uS w)]
        dsimp only
        rw[hse]
        dsimp only
        rw[Sem.bind_ok (sV ti w),Sem.bind_ok (dD uX w)]
        rw[hse]at hu
        have hz0:(pure (match X.und with | .int _=>true|_=>false):Sem Bool).run P w=.ok false w:=by
         split
         ·rename_i kk hk;exact absurd hk (hni kk)
         ·rfl
        refine(Sem.bind_ok hz0).trans ?_
        ·rw[if_neg Bool.false_ne_true,Sem.bind_ok hln]
         exact hu
      ·cases ho
   ·cases ho
  ·cases ho
 ·cases ho
end ops
end Go.aI
namespace Go.aI
variable [O:dw]
open Go.RowKit
section ops
variable {E:Env} {P:Program} {B:Nat→Prop} {W0:World} {σ:Sg} {V:Nat→Prop} {h:MH} {w:World} {ev:Ev} {ρ:Operand→Value}
omit O in
theorem aiE{o:Option MV}{v:MV}{h':MH}(ho:vR o=some (.upd v h')):False:=mD (pX _) ho
omit O in
theorem aiF{o:Option (gW×MB)}{v:MV}{h':MH}(ho:mi o=some (.upd v h')):False:=by
 unfold mi at ho;split at ho<;>cases ho
theorem MN{c:Call}{b:Builtin}{t:TypeId}{args:List MV}(hb:c.callee=.builtin b)(ha:c.args.map ρ=⟨aF σ args⟩) :
  (resolve ρ c t).run P w=.ok {target:=.builtin b c.argTypes t (c.args.map fun | .const _=>true|_=>false),args:=⟨aF σ args⟩} w:=by
 unfold resolve;simp only[hb,ha];rfl
theorem Vq(hE:bT E P)(R:Rel E.G B W0 σ V h w)(hW:∀k,B k→k<W0.heap.size)(hev:fB σ V ev ρ)(o:Oper){v:MV}{h':MH}(ho:fD E ev o.op h=some (.upd v h')) :
  gK E.G B W0 σ V h h' (C9 P ρ o w v):=by
 cases hop:o.op<;>rw[hop]at ho<;>simp only[fD]at ho<;>first|(cases ho;done)|exact(aiE ho).elim|exact(aiF ho).elim|skip
 case pick=>exact(mD (Gp _ _ _) ho).elim
 case build=>exact(mD (Gq _ _) ho).elim
 case load=>exact(mD (CV _ _) ho).elim
 case nilCheck=>exact(mD (Gt _) ho).elim
 case binOp=>exact(mD (Gu _ _ _ _) ho).elim
 case unOp=>exact(mD (Gv _ _) ho).elim
 case makeFunc=>exact(mD (Gw _ _ _) ho).elim
 case slice=>exact(mD (Gx _ _ _ _ _) ho).elim
 case fieldAddr=>exact(mD (Gy _ _ _) ho).elim
 case field=>exact(mD (Gz _ _ _) ho).elim
 case indexAddr=>exact(mD (GG _ _ _) ho).elim
 case index=>exact(mD (GH _ _ _) ho).elim
 case lookup=>exact(mD (CW _ _ _ _) ho).elim
 case extract=>exact(mD (GI _ _) ho).elim
 case convert s d x=>exact aic hE R hW hev hop ho
 case store t x y=>
  obtain⟨v',h'',e1,e2⟩:=qK ho
  cases e2
  exact ah9 hE R hev hop e1
 case range t x=>
  obtain⟨v',h'',e1,e2⟩:=qK ho
  cases e2
  exact aie hE R hW hev hop e1
 case next it s=>
  obtain⟨v',h'',e1,e2⟩:=qK ho
  cases e2
  exact aik R hev hop e1
 case mapUpdate t m k x=>
  obtain⟨v',h'',e1,e2⟩:=qK ho
  cases e2
  obtain⟨w',r1,r2,rfl,r4⟩:=Vo hE R hev e1
  refine gK.same r2 r1 ⟨xJ,.inr ⟨rfl,?_⟩⟩
  unfold execOp;simp only[hop]
  exact L9 r4
 case insert t m k x=>
  obtain⟨v',h'',e1,e2⟩:=qK ho
  cases e2
  obtain⟨w',r1,r2,rfl,r4⟩:=Vo hE R hev e1
  refine gK.same r2 r1 ⟨xJ,.inr ⟨rfl,?_⟩⟩
  unfold execOp;simp only[hop]
  exact L9 r4
 case call c=>
  obtain⟨args,ha,hcase⟩:=GK ho
  obtain⟨a1,a2⟩:=Gj hev ha
  rcases hcase with⟨u,e⟩|⟨x,y,u,h2,hb,rfl,e,hm⟩|⟨x,y,u,h2,hb,rfl,e,hm⟩|⟨x,y,t,u,h2,hb,rfl,e,ht,hm⟩|⟨f,g,a,b,-,-,-,e⟩|⟨f,l,-,-,e⟩
  ·cases e
  ·cases e
   simp only[wfs]at a1
   refine(aiB (ty:=o.type) hE R hW a1.1 a1.2.1 hm).mono ?_
   rintro σ' V' w' - - ⟨k1,k2⟩
   refine⟨k1,.inl ?_⟩
   unfold execOp;simp only[hop]
   rw[Sem.bind_ok (MN (σ:=σ) hb a2)]
   exact gp k2
  ·cases e
   simp only[wfs]at a1
   obtain⟨w',r1,r2,r3,r4⟩:=aiv (ty:=o.type) hE R a1.1 a1.2.1 hm
   refine gK.same r2 r1 ⟨r3,.inl ?_⟩
   unfold execOp;simp only[hop]
   rw[Sem.bind_ok (MN (σ:=σ) hb a2)]
   exact gp r4
  ·cases e
   simp only[wfs]at a1
   rw[vC]at ht
   obtain⟨w',r1,r2,rfl,r4⟩:=aiq (ty:=o.type) hE R ht a1.1 a1.2.1 hm
   refine gK.same r2 r1 ⟨xJ,.inl ?_⟩
   unfold execOp;simp only[hop]
   rw[Sem.bind_ok (MN (σ:=σ) hb a2)]
   exact gp r4
  ·cases e
  ·cases e
omit O in
theorem aiG{f:FuncId}{args:List MV}{o:Op}(ho:fD E ev o h=some (.enter f args)):∃c,o=.call c∧sO E ev c h=some (.enter f args):=by
 have gX:∀{x:Option MR},gI x→x=some (.enter f args)→False:=fun hv hx=>by obtain⟨v,e⟩:=hv _ hx;cases e
 have MP:∀{x:Option (MV×MH)},lC x=some (.enter f args)→False:=fun hx=>by obtain⟨_,_,_,e⟩:=qK hx;cases e
 have MQ:∀{x:Option (gW×MB)},mi x=some (.enter f args)→False:=fun{x} hx=>by unfold mi at hx;split at hx<;>cases hx
 cases o<;>simp only[fD]at ho<;>first|(cases ho;done)|exact(MP ho).elim|exact(MQ ho).elim|exact(gX (pX _) ho).elim|exact⟨_,rfl,ho⟩|skip
 case pick=>exact(gX (Gp _ _ _) ho).elim
 case build=>exact(gX (Gq _ _) ho).elim
 case load=>exact(gX (CV _ _) ho).elim
 case nilCheck=>exact(gX (Gt _) ho).elim
 case binOp=>exact(gX (Gu _ _ _ _) ho).elim
 case unOp=>exact(gX (Gv _ _) ho).elim
 case makeFunc=>exact(gX (Gw _ _ _) ho).elim
 case slice=>exact(gX (Gx _ _ _ _ _) ho).elim
 case fieldAddr=>exact(gX (Gy _ _ _) ho).elim
 case field=>exact(gX (Gz _ _ _) ho).elim
 case indexAddr=>exact(gX (GG _ _ _) ho).elim
 case index=>exact(gX (GH _ _ _) ho).elim
 case lookup=>exact(gX (CW _ _ _ _) ho).elim
 case extract=>exact(gX (GI _ _) ho).elim
 case convert=>rcases CX ho with⟨v,e⟩|⟨S,D,e,T,b,-,-,-,-,-,-,-,e⟩|⟨S,D,e1,e2,T,xv,-,-,-,-,-,-,-,-,hm⟩<;>first|cases e|(obtain⟨_,_,_,_,_,_,_,_,-,-,-,e⟩:=zJ hm;cases e)
omit O in
theorem aiH{l:Nat}{args:List MV}{o:Op}(ho:fD E ev o h=some (.round l args)):∃c,o=.call c∧sO E ev c h=some (.round l args):=by
 have gX:∀{x:Option MR},gI x→x=some (.round l args)→False:=fun hv hx=>by obtain⟨v,e⟩:=hv _ hx;cases e
 have MP:∀{x:Option (MV×MH)},lC x=some (.round l args)→False:=fun hx=>by obtain⟨_,_,_,e⟩:=qK hx;cases e
 have MQ:∀{x:Option (gW×MB)},mi x=some (.round l args)→False:=fun{x} hx=>by unfold mi at hx;split at hx<;>cases hx
 cases o<;>simp only[fD]at ho<;>first|(cases ho;done)|exact(MP ho).elim|exact(MQ ho).elim|exact(gX (pX _) ho).elim|exact⟨_,rfl,ho⟩|skip
 case pick=>exact(gX (Gp _ _ _) ho).elim
 case build=>exact(gX (Gq _ _) ho).elim
 case load=>exact(gX (CV _ _) ho).elim
 case nilCheck=>exact(gX (Gt _) ho).elim
 case binOp=>exact(gX (Gu _ _ _ _) ho).elim
 case unOp=>exact(gX (Gv _ _) ho).elim
 case makeFunc=>exact(gX (Gw _ _ _) ho).elim
 case slice=>exact(gX (Gx _ _ _ _ _) ho).elim
 case fieldAddr=>exact(gX (Gy _ _ _) ho).elim
 case field=>exact(gX (Gz _ _ _) ho).elim
 case indexAddr=>exact(gX (GG _ _ _) ho).elim
 case index=>exact(gX (GH _ _ _) ho).elim
 case lookup=>exact(gX (CW _ _ _ _) ho).elim
 case extract=>exact(gX (GI _ _) ho).elim
 case convert=>rcases CX ho with⟨v,e⟩|⟨S,D,e,T,b,-,-,-,-,-,-,-,e⟩|⟨S,D,e1,e2,T,xv,-,-,-,-,-,-,-,-,hm⟩<;>first|cases e|(obtain⟨_,_,_,_,_,_,_,_,-,-,-,e⟩:=zJ hm;cases e)
theorem Vr(hE:bT E P)(hev:fB σ V ev ρ)(o:Oper){f:FuncId}{args:List MV}(ho:fD E ev o.op h=some (.enter f args))(w:World) :
  E.ext f=none∧wfs σ V args∧∀F,E.fns.get f=some F→F.body.isSome=true→(execOp ρ o).run P w=.ok (.enter f ⟨aF σ args⟩) w:=by
 obtain⟨c,hop,hc⟩:=aiG ho
 obtain⟨Vs,ha,hcase⟩:=GK hc
 obtain⟨a1,a2⟩:=Gj hev ha
 rcases hcase with⟨u,e⟩|⟨x,y,u,h2,-,-,e,-⟩|⟨x,y,u,h2,-,-,e,-⟩|⟨x,y,t,u,h2,-,-,e,-⟩|⟨fo,g,a,b,hcl,hf,hg,e⟩|⟨fo,l,-,-,e⟩<;>cases e
 obtain⟨f1,f2⟩:=hev fo _ hf
 simp only[wf]at f1
 refine⟨hg,vF.2 ⟨vF.2 ⟨f1.1,a1⟩,f1.2⟩,fun F hF hb=>?_⟩
 obtain⟨hF1,hF2⟩:=hE.fns f F hF
 unfold execOp;simp only[hop]
 have hres:(resolve ρ c o.type).run P w=.ok {target:=.fn (.func f) ⟨aF σ b⟩,args:=⟨aF σ a⟩++⟨aF σ Vs⟩} w:=by
  unfold resolve;simp only[hcl,a2,f2,ae,Deferred.ofValue];rfl
 rw[Sem.bind_ok hres]
 unfold invoke callFunc
 simp only[]
 rw[Sem.bind_ok (show(program).run P w=.ok P w from rfl),hF1]
 simp only[]
 rw[if_neg (by simpa using hF2),if_neg (by simp[Option.isNone_iff_eq_none];intro e;rw[e]at hb;cases hb)]
 simp only[Sem.run_pure]
 congr 2
 rw[←Array.toList_inj]
 simp[dS]
theorem Vt(hev:fB σ V ev ρ)(o:Oper){l:Nat}{args:List MV}(ho:fD E ev o.op h=some (.round l args))(w:World) :
  V l∧wfs σ V args∧(execOp ρ o).run P w=(Instr.yield (σ l).blk ⟨aF σ args⟩).run P w:=by
 obtain⟨c,hop,hc⟩:=aiH ho
 obtain⟨Vs,ha,hcase⟩:=GK hc
 obtain⟨a1,a2⟩:=Gj hev ha
 rcases hcase with⟨u,e⟩|⟨x,y,u,h2,-,-,e,-⟩|⟨x,y,u,h2,-,-,e,-⟩|⟨x,y,t,u,h2,-,-,e,-⟩|⟨fo,g,a,b,-,-,-,e⟩|⟨fo,l',hcl,hf,e⟩<;>cases e
 obtain⟨f1,f2⟩:=hev fo _ hf
 simp only[wf]at f1
 refine⟨f1,a1,?_⟩
 unfold execOp;simp only[hop]
 have hres:(resolve ρ c o.type).run P w=.ok {target:=.fn (.yield (σ l).blk) #[],args:=#[]++⟨aF σ args⟩} w:=by
  unfold resolve;simp only[hcl,a2,f2,ae,Deferred.ofValue];rfl
 rw[Sem.bind_ok hres]
 unfold invoke
 simp
end ops
end Go.aI
namespace Go.aI
variable [O:dw]
open Go.RowKit
def vH(σ:Sg)(d:Nat):Deferred:={target:=.collected (σ d).blk,args:=#[]}
structure iW(σ:Sg)(V:Nat→Prop)(m:MA)(a:Act):Prop where
 tm:ou σ V m.tmps m.nt a.tmps
 df:a.defers=m.defs.map (vH σ)
 dv:∀d∈m.defs,V d
theorem iW.jb{V V':Nat→Prop}{σ σ':Sg}{m:MA}{a:Act}(h:dJ V σ σ')(hV:∀id,V id→V' id)(ha:iW σ V m a):iW σ' V' m a:=
 ⟨ha.tm.jb h hV,by rw[ha.df];exact List.map_congr_left fun d hd=>by simp only[vH,h d (ha.dv d hd)],fun d hd=>hV d (ha.dv d hd)⟩
theorem iW.put{σ:Sg}{V:Nat→Prop}{m:MA}{a:Act}(ha:iW σ V m a)(dst:Option Tmp){v:MV}(hv:wf σ V v):iW σ V (m.put dst v) (a.put dst (ae σ v)):=by
 cases dst with
 |none=>exact ha
 |some d=>
  unfold MA.put Act.put
  cases hb:Nat.blt d m.nt with
  |true=>
   simp only[hb,cond_true]
   have hlt:=jf hb
   refine⟨⟨by simpa using ha.tm.size,fun k u hk=>?_⟩,ha.df,ha.dv⟩
   rw[Tr.get_put]at hk
   split at hk
   ·rename_i e
    cases hk
    refine⟨hv,?_⟩
    rw[e,Array.getElem?_setIfInBounds,if_pos rfl,if_pos (by rw[ha.tm.size];exact hlt)]
   ·rename_i e
    obtain⟨h1,h2⟩:=ha.tm.cell k u hk
    exact⟨h1,by rw[Array.getElem?_setIfInBounds_ne (Ne.symm e)];exact h2⟩
  |false=>
   simp only[hb,cond_false]
   have hge:¬d<m.nt:=fun hlt=>by rw[CS hlt]at hb;cases hb
   have:a.tmps.setIfInBounds d (ae σ v)=a.tmps:=by
    apply Array.ext_getElem?
    intro i
    rw[Array.getElem?_setIfInBounds]
    split
    ·rename_i e
     subst e
     rw[if_neg (by rw[ha.tm.size];exact hge)]
     rw[Array.getElem?_eq_none (by rw[ha.tm.size];exact Nat.le_of_not_lt hge)]
    ·rfl
   exact⟨by rw[this];exact ha.tm,ha.df,ha.dv⟩
def After(G:GB)(B:Nat→Prop)(W0:World)(σ:Sg)(V:Nat→Prop)(h h':MH)(w':World)(K:Sg→(Nat→Prop)→Prop):Prop:=
 ∃σ' V',dJ V σ σ'∧(∀id,V id→V' id)∧(∀id,V' id→V id∨h.nx≤id)∧h.nx≤h'.nx∧Rel G B W0 σ' V' h' w'∧K σ' V'
theorem After.trans{G:GB}{B:Nat→Prop}{W0:World}{σ σ':Sg}{V V':Nat→Prop}{h h' h'':MH}{w':World}{K:Sg→(Nat→Prop)→Prop}
  (h1:dJ V σ σ') (h2:∀id,V id→V' id) (h3:∀id,V' id→V id∨h.nx≤id) (h4:h.nx≤h'.nx) (ha:After G B W0 σ' V' h' h'' w' K):After G B W0 σ V h h'' w' K:=by
 obtain⟨σ2,V2,g1,g2,g3,g4,g5,g6⟩:=ha
 refine⟨σ2,V2,h1.trans h2 g1,fun id hid=>g2 id (h2 id hid),fun id hid=>?_,Nat.le_trans h4 g4,g5,g6⟩
 rcases g3 id hid with h|h
 ·exact h3 id h
 ·exact .inr (Nat.le_trans h4 h)
def tq(G:GB)(B:Nat→Prop)(W0:World)(σ:Sg)(V:Nat→Prop)(h h':MH)(v:MV):Ending→World→Prop:=
 fun e w'=>After G B W0 σ V h h' w' fun σ' V'=>wf σ' V' v∧e=.returned (ae σ' v)
def fence:Option Nat→Fence
 |none=>Fence.wide
 |some b=>Fence.wide.inRound b
omit O in
theorem vI(r:Option Nat)(f:FuncId):(fence r).fn f:=by cases r<;>trivial
omit O in
theorem Dc(r:Option Nat):(fence r).depth=none:=by cases r<;>rfl
omit O in
theorem aiI(r:Option Nat):(fence r).round=r:=by cases r<;>rfl
omit O in
theorem MS{r:Option Nat}{n:Nat}{P:Program}{f:FuncId}{args:Array Value}{w:World}{R:Ending→World→Prop}(h:Calls P f args w R):CallsIn (fence r) n P f args w R:=by
 cases r with
 |none=>exact callsIn_wide.2 h
 |some b=>exact callsIn_wide.2 h
omit O in
theorem Vu{r:Option Nat}{n:Nat}{P:Program}{l:Nat}{f:FuncId}{tmps:Array Value}{assign body:Code}{w:World}{R:Ending→World→Prop}
  (h:RoundIn Fence.wide n P l f tmps assign body w R):RoundIn (fence r) n P l f tmps assign body w R:=by
 cases r with
 |none=>exact h
 |some b=>exact h
def oD(E:Env)(P:Program)(B:Nat→Prop)(W0:World)(go:Task→MH→Option (MV×MH)):Prop:=
 (∀f args h v h',go (.call f args) h=some (v,h')→∃F,E.fns.get f=some F∧F.body.isSome=true∧
  ∀σ V w,Rel E.G B W0 σ V h w→wfs σ V args→Calls P f ⟨aF σ args⟩ w (tq E.G B W0 σ V h h' v))∧
 (∀l args h v h',go (.round l args) h=some (v,h')→∀σ V w,Rel E.G B W0 σ V h w→V l→wfs σ V args→
  ∃f tm assign body,(Instr.yield (σ l).blk ⟨aF σ args⟩).run P w=.ok (.round (σ l).blk f tm assign body) w∧
   RoundIn Fence.wide 0 P (σ l).blk f tm assign body w (tq E.G B W0 σ V h h' v))
section
variable {E:Env} {P:Program} {B:Nat→Prop} {W0:World} {σ:Sg} {V:Nat→Prop} {h:MH} {w:World}
theorem zM(R:Rel E.G B W0 σ V h w){m:MA}{a:Act}(ha:iW σ V m a):fB σ V (m.eval E.G) a.eval:=by
 intro x v hx
 cases x with
 |tmp t=>
  obtain⟨h1,h2⟩:=ha.tm.cell t v hx
  refine⟨h1,?_⟩
  show a.tmps.getD t undef=_
  rw[Array.getD_eq_getD_getElem?,h2];rfl
 |const u=>
  obtain⟨h1,h2⟩:=CO σ V u v hx
  exact⟨h2,h1.symm⟩
 |global g=>
  simp only[MA.eval]at hx
  cases hb:Nat.blt g E.G.g0 with
  |false=>rw[hb]at hx;cases hx
  |true=>
   rw[hb]at hx
   cases hx
   obtain⟨h1,h2,h3⟩:=R.kR g (jf hb)
   refine⟨h1,?_⟩
   simp only[Act.eval,ae,h2,h3]
 |func f=>
  simp only[MA.eval,Option.some.injEq]at hx
  subst hx
  exact⟨by simp only[wf,wfs];exact⟨trivial,trivial⟩,rfl⟩
theorem aiJ(hE:bT E P)(hW:∀k,B k→k<W0.heap.size){go:Task→MH→Option (MV×MH)}(hgo:oD E P B W0 go)(r:Option Nat){o:Oper}(hnd:∀c,o.op≠.defer c)
  (R:Rel E.G B W0 σ V h w) {m:MA} {a:Act} (ha:iW σ V m a) {v:MV} {h':MH} (ho:lG go h (fD E (m.eval E.G) o.op h)=some (v,h'))
  {K:Act→World→Prop} {Q:Exit→Act→World→Prop} (hK:∀a' w',After E.G B W0 σ V h h' w' (fun σ' V'=>iW σ' V' (m.put o.dst v) a')→K a' w') :
  o.wpIn (fence r) 0 P a w K Q:=by
 have hev:=zM (E:=E) R ha
 unfold Oper.wpIn
 refine⟨fun f _=>vI r f,?_⟩
 rw[Oper.semAt_eq _ _ _ hnd]
 cases hm:fD E (m.eval E.G) o.op h with
 |none=>rw[hm]at ho;cases ho
 |some res=>
  rw[hm]at ho
  cases res with
  |val u=>
   simp only[lG,Option.some.injEq,Prod.mk.injEq]at ho
   obtain⟨rfl,rfl⟩:=ho
   obtain⟨h1,h2⟩:=look_ok hE R hev o hm
   rw[h2,Oper.uponIn_value]
   exact hK _ _ ⟨σ,V,dJ.refl _ _,fun _ hx=>hx,fun _ hx=>.inl hx,Nat.le_refl _,R,ha.put o.dst h1⟩
  |new k b=>
   simp only[lG,Option.some.injEq,Prod.mk.injEq]at ho
   obtain⟨rfl,rfl⟩:=ho
   have kE:¬V h.nx:=fun hv=>Nat.lt_irrefl _ (R.vx _ hv)
   obtain⟨obj,h1,h2,h3⟩:=MF hE hev o hm kE w
   rw[h1,Oper.uponIn_value]
   have hag:=oz (V:=V) σ ⟨w.heap.size,0,0⟩ kE
   exact hK _ _ ⟨_,_,hag,fun _ hx=>.inl hx,fun _ hx=>hx.imp (fun x=>x) (fun e=>Nat.le_of_eq e.symm),Nat.le_succ _,R.alloc (R.size hW) 0 0 h2,(ha.jb hag (fun _ hx=>.inl hx)).put o.dst h3⟩
  |upd u h1=>
   simp only[lG,Option.some.injEq,Prod.mk.injEq]at ho
   obtain⟨rfl,rfl⟩:=ho
   obtain⟨σ',V',w',g1,g2,g3,g4,g5,g6,g7⟩:=Vq hE R hW hev o hm
   have key:=hK (a.put o.dst (ae σ' u)) w' ⟨σ',V',g1,g2,g3,g4,g5,(ha.jb g1 g2).put o.dst g6⟩
   rcases g7 with g7|⟨rfl,g7⟩
   ·rw[g7,Oper.uponIn_value];exact key
   ·rw[g7,Oper.uponIn_skip]
    exact key
  |enter f args=>
   simp only[lG]at ho
   obtain⟨F,hF,hb,hcall⟩:=hgo.1 f args h v h' ho
   obtain⟨-,h2,h3⟩:=Vr hE hev o hm w
   rw[h3 F hF hb,Oper.uponIn_enter]
   refine⟨fun hd=>(by rw[Dc]at hd;cases hd),MS ?_⟩
   refine(hcall σ V w R h2).mono ?_
   rintro e w' ⟨σ',V',g1,g2,g3,g4,g5,g6,rfl⟩
   exact hK _ _ ⟨σ',V',g1,g2,g3,g4,g5,(ha.jb g1 g2).put o.dst g6⟩
  |round l args=>
   simp only[lG]at ho
   obtain⟨h1,h2,h3⟩:=Vt hev o hm w
   obtain⟨f,tm,assign,body,hy,MW⟩:=hgo.2 l args h v h' ho σ V w R h1 h2
   rw[h3,hy,Oper.uponIn_round]
   refine⟨fun hd=>(by rw[Dc]at hd;cases hd),Vu ?_⟩
   refine MW.mono ?_
   rintro e w' ⟨σ',V',g1,g2,g3,g4,g5,g6,rfl⟩
   exact hK _ _ ⟨σ',V',g1,g2,g3,g4,g5,(ha.jb g1 g2).put o.dst g6⟩
theorem Vw{m:MA}{a:Act}(ha:iW σ V m a){ops:Array Oper}{o:Oper}{b:Bool}(hw:lF ops m o=some b):Region.wanted o (yielded ops a.tmps)=b:=by
 unfold lF at hw
 unfold Region.wanted
 split at hw
 ·rename_i hg
  cases hw
  simp only[hg]
 ·rename_i j want hg
  simp only[hg]
  split at hw
  ·rename_i g hgo
   rw[vC]at hgo
   split at hw
   ·rename_i d hd
    split at hw
    ·rename_i c hc
     cases hw
     obtain⟨-,h2⟩:=ha.tm.cell d _ hc
     unfold yielded
     simp only[hgo,Option.bind_some,hd,h2,ae]
     cases c<;>cases want<;>rfl
    ·rename_i vs hc
     cases hw
     obtain⟨-,h2⟩:=ha.tm.cell d _ hc
     unfold yielded
     simp only[hgo,Option.bind_some,hd,h2,ae]
     cases want<;>rfl
    ·cases hw
   ·cases hw
  ·cases hw
omit O in
theorem aiK{go:Task→MH→Option (MV×MH)}(ops:Array Oper)(o:Oper)(l:List Oper)(m:MA)(h:MH):zB E go ops (o::l) m h =
  (match lF ops m o with
  |some true=>match lG go h (fD E (m.eval E.G) o.op h)with
   |some (v,h')=>zB E go ops l (m.put o.dst v) h'
   |none=>none
  |some false=>zB E go ops l (m.put o.dst jL) h
  |none=>none):=rfl
theorem aiL(hE:bT E P)(hW:∀k,B k→k<W0.heap.size){go:Task→MH→Option (MV×MH)}(hgo:oD E P B W0 go)(r:Option Nat)(ops:Array Oper){Q:Exit→Act→World→Prop} :
  ∀(l:List Oper),(∀o∈l,∀c,o.op≠.defer c)→∀(σ:Sg) (V:Nat→Prop) (h:MH) (w:World) (m m':MA) (h':MH) (a:Act),Rel E.G B W0 σ V h w→iW σ V m a→zB E go ops l m h=some (m',h')→
   (∀a' w',After E.G B W0 σ V h h' w' (fun σ' V'=>iW σ' V' m' a')→Q .normal a' w')→wpListIn (fence r) 0 P ops Q l a w:=by
 intro l
 induction l with
 |nil=>
  intro _ σ V h w m m' h' a R ha hr hQ
  have e:zB E go ops [] m h=some (m,h):=rfl
  rw[e]at hr;cases hr
  exact hQ a w ⟨σ,V,dJ.refl _ _,fun _ hx=>hx,fun _ hx=>.inl hx,Nat.le_refl _,R,ha⟩
 |cons o l ih=>
  intro hnd σ V h w m m' h' a R ha hr hQ
  rw[aiK]at hr
  split at hr
  ·rename_i hw
   have hw':=Vw ha hw
   split at hr
   ·rename_i v h1 ho
    unfold wpListIn
    rw[if_pos hw']
    refine aiJ hE hW hgo r (hnd o (by simp)) R ha ho ?_
    rintro a1 w1 ⟨σ1,V1,g1,g2,g3,g4,g5,g6⟩
    exact ih (fun x hx=>hnd x (by simp[hx])) σ1 V1 h1 w1 _ m' h' a1 g5 g6 hr (fun a2 w2 hA=>hQ a2 w2 (hA.trans g1 g2 g3 g4))
   ·cases hr
  ·rename_i hw
   have hw':=Vw ha hw
   unfold wpListIn
   rw[if_neg (by rw[hw'];exact Bool.false_ne_true)]
   refine⟨fun f _=>vI r f,?_⟩
   exact ih (fun x hx=>hnd x (by simp[hx])) σ V h w _ m' h' _ R (ha.put o.dst xJ) hr hQ
  ·cases hr
end
end Go.aI
namespace Go.aI
variable [O:dw]
open Go.RowKit
section scope
variable {F:Fence} {n:Nat} {P:Program} {Q:Exit→Act→World→Prop} {a:Act} {w:World} {b:Frame} {k:List Item} {cs:List Frame}
omit O in
theorem xK{c:Code}:step P (lone (b.atR a (.code (.scope c)::k)) cs w)=.next (lone (b.atR a (.code c::.inScope c::k)) cs w):=
 step_lone_go (by simp[stepG,stepG.exec,Frame.atR])
omit O in
theorem Vx{c:Code}:step P (lone (b.atR a (.inScope c::k)) cs w)=.next (lone (b.atR a k) cs w):=
 step_lone_go (by simp[stepG,stepG.exec,Frame.atR])
def noGoto(Q:Exit→Act→World→Prop):Exit→Act→World→Prop
 | .goto _,_,_=>False
 |e,a,w=>Q e a w
def aiM(F:Fence)(n:Nat)(P:Program)(c:Code)(Q:Exit→Act→World→Prop):Exit→Act→World→Prop
 | .goto l,a,w=>∃c',findLabel c l=some c'∧c'.wpIn F n P (noGoto Q) a w
 |e,a,w=>Q e a w
omit O in
theorem aiN{c c':Code}(h:c'.wpIn F n P (noGoto Q) a w)(hro:b.roundOf=F.round)(hb:F.fn b.fn)(hr:F.room (cs.length+1+n)) :
  ∃e a' w',Q e a' w'∧ArrivesIn (Machine.fenced P F) P (lone (b.atR a (.code c'::.inScope c::k)) cs w) b k cs e a' w':=by
 obtain⟨e,a₁,w₁,hq,harr⟩:=h b (.inScope c::k) cs hro hb hr
 cases e with
 |normal=>exact⟨.normal,a₁,w₁,hq,StepsIn.trans harr (.one (fenced_calm hb hr rfl) Vx)⟩
 |exit id=>
  have hx:exitTo id (.inScope c::k)=exitTo id k:=by simp[exitTo]
  exact⟨.exit id,a₁,w₁,hq,fun k' hk=>harr.1 k' (by rw[hx];exact hk),fun hr' hk=>let⟨k₁,h1,h2⟩:=harr.2 hr' (by rw[hx];exact hk);⟨k₁,h1,h2⟩⟩
 |goto l=>exact hq.elim
 |ret=>exact⟨_,a₁,w₁,hq,harr⟩
 |panic ch=>exact⟨_,a₁,w₁,hq,harr⟩
 |outgrown=>exact⟨_,a₁,w₁,hq,harr⟩
omit O in
theorem aiO{c:Code}(h:c.wpIn F n P (aiM F n P c Q) a w):(Code.scope c).wpIn F n P Q a w:=by
 intro b k cs hro hb hr
 have h0:(lone (b.atR a (.code (.scope c)::k)) cs w).fenced P F:=fenced_calm hb hr rfl
 obtain⟨e,a₁,w₁,hq,harr⟩:=h b (.inScope c::k) cs hro hb hr
 cases e with
 |normal=>exact⟨.normal,a₁,w₁,hq,.head h0 xK (StepsIn.trans harr (.one (fenced_calm hb hr rfl) Vx))⟩
 |exit id=>
  have hx:exitTo id (.inScope c::k)=exitTo id k:=by simp[exitTo]
  exact⟨.exit id,a₁,w₁,hq,fun k' hk=>.head h0 xK (harr.1 k' (by rw[hx];exact hk)),fun hr' hk=>let⟨k₁,h1,h2⟩:=harr.2 hr' (by rw[hx];exact hk);⟨k₁,h1,.head h0 xK h2⟩⟩
 |goto l=>
  obtain⟨c',hc',hw⟩:=hq
  have hs:=harr.1 (.code c'::.inScope c::k) (by simp[gotoIn,hc'])
  obtain⟨e,a2,w2,hq2,aiP⟩:=aiN (b:=b) (k:=k) (cs:=cs) (c:=c) hw hro hb hr
  exact⟨e,a2,w2,hq2,.of_steps (.head h0 xK hs) aiP⟩
 |ret=>exact⟨_,a₁,w₁,hq,.of_steps (.one h0 xK) harr⟩
 |panic ch=>exact⟨_,a₁,w₁,hq,.of_steps (.one h0 xK) harr⟩
 |outgrown=>exact⟨_,a₁,w₁,hq,.of_steps (.one h0 xK) harr⟩
end scope
def ex:MX→Exit
 | .normal=>.normal
 | .exit id=>.exit id
 | .goto l=>.goto l
 | .ret=>.ret
def MZ(G:GB)(B:Nat→Prop)(W0:World)(σ:Sg)(V:Nat→Prop)(h:MH)(o:MO):Exit→Act→World→Prop:=
 fun e a' w'=>e=ex o.e∧After G B W0 σ V h o.h w' fun σ' V'=>iW σ' V' o.a a'
def zN(σ:Sg)(V:Nat→Prop)(rd r:Option Nat):Prop:=
 (rd=none∧r=none)∨∃l,rd=some l∧V l∧r=some (σ l).blk
omit O in
theorem zN.jb{V V':Nat→Prop}{σ σ':Sg}{rd r:Option Nat}(h:dJ V σ σ')(hV:∀id,V id→V' id)(hr:zN σ V rd r):zN σ' V' rd r:=by
 rcases hr with hr|⟨l,h1,h2,h3⟩
 ·exact .inl hr
 ·exact .inr ⟨l,h1,hV l h2,by rw[h3,h l h2]⟩
section
variable {E:Env} {P:Program} {B:Nat→Prop} {W0:World}
def GM(E:Env)(P:Program)(B:Nat→Prop)(W0:World)(rd:Option Nat)(ih:Ih):Prop:=
 ∀c m h o,ih c m h=some o→∀σ V w a r,Rel E.G B W0 σ V h w→iW σ V m a→zN σ V rd r→c.wpIn (fence r) 0 P (MZ E.G B W0 σ V h o) a w
omit O in
theorem aiQ(body:MA→MH→Option MO)(n:Nat)(a:MA)(h:MH):FQ body (n+1) a h=(match body a h with
  |some ⟨.normal,a',h'⟩=>FQ body n a' h'
  |r=>r):=rfl
omit O in
theorem aiR{F:Fence}{n:Nat}{c:Code}{Q Q':Exit→Act→World→Prop}(hq:∀e a w,Q e a w→Q' e a w):∀(k:Nat) (a:Act) (w:World),Code.roundsIn F n P c Q k a w→Code.roundsIn F n P c Q' k a w:=by
 intro k
 induction k with
 |zero=>intro a w h;exact h
 |succ k ih=>
  intro a w h
  rw[Code.roundsIn]at h ⊢
  refine wpIn_mono h ?_
  intro e a1 w1 he
  cases e<;>first|exact ih _ _ he|exact hq _ _ _ he
theorem aiS{rd:Option Nat}{ih:Ih}(hih:GM E P B W0 rd ih)(c:Code):∀(k:Nat) (m:MA) (h:MH) (o:MO),FQ (ih c) k m h=some o→
  ∀σ V w a r,Rel E.G B W0 σ V h w→iW σ V m a→zN σ V rd r→Code.roundsIn (fence r) 0 P c (MZ E.G B W0 σ V h o) k a w:=by
 intro k
 induction k with
 |zero=>intro m h o ho;cases ho
 |succ k ihk=>
  intro m h o ho σ V w a r R ha hr
  rw[aiQ]at ho
  rw[Code.roundsIn]
  split at ho
  ·rename_i m1 h1 hb
   refine wpIn_mono (hih c m h _ hb σ V w a r R ha hr) ?_
   rintro e a1 w1 ⟨rfl,σ1,V1,g1,g2,g3,g4,g5,g6⟩
   exact aiR (fun e a2 w2 hq=>⟨hq.1,hq.2.trans g1 g2 g3 g4⟩) k a1 w1 (ihk m1 h1 o ho σ1 V1 w1 a1 r g5 g6 (hr.jb g1 g2))
  ·rename_i hn
   refine wpIn_mono (hih c m h o ho σ V w a r R ha hr) ?_
   rintro e a1 w1 ⟨rfl,hA⟩
   cases hoe:o.e with
   |normal=>exact absurd ho (by obtain⟨e,a',h'⟩:=o;simp only at hoe;subst hoe;exact hn _ _)
   |exit id=>exact⟨by rw[hoe],hA⟩
   |goto l=>exact⟨by rw[hoe],hA⟩
   |ret=>exact⟨by rw[hoe],hA⟩
omit O in
theorem Df{w:World}{b:Nat}{r:Loop}(hb:w.heap[b]?=some (.loop r)):(Instr.getLoop b).run P w=.ok r w:=by
 unfold Instr.getLoop
 rw[Sem.bind_ok (run_getObj_loop (P:=P) hb)]
 rfl
theorem aiT{σ:Sg}{V:Nat→Prop}{h:MH}{w:World}{m:MA}{a:Act}{rd r:Option Nat}(hW:∀k,B k→k<W0.heap.size)(R:Rel E.G B W0 σ V h w)(ha:iW σ V m a)(hr:zN σ V rd r)
  {ps:Array Tmp} {assign body:Code} {l:Nat} {m':MA} {h':MH} (ho:Cm m ps.toList assign body rd h=some (l,m',h')) (fn:FuncId) :
  ∃mark w1 σ1 V1,(Instr.enterLoop fn a.tmps ps assign body r).run P w=.ok ((σ1 l).blk,mark) w1∧dJ V σ σ1∧(∀id,V id→V1 id)∧(∀id,V1 id→V id∨h.nx≤id)∧h.nx≤h'.nx∧
   Rel E.G B W0 σ1 V1 h' w1∧V1 l∧iW σ1 V1 m' {a with defers:=mark++a.defers}:=by
 have kE:¬V h.nx:=fun hv=>Nat.lt_irrefl _ (R.vx _ hv)
 unfold Cm at ho
 rcases hr with⟨rfl,rfl⟩|⟨l0,rfl,hv0,rfl⟩
 ·simp only[Option.some.injEq,Prod.mk.injEq]at ho
  obtain⟨rfl,rfl,rfl⟩:=ho
  have R1:Rel E.G B W0 (upd σ h.nx ⟨w.heap.size,0,0⟩) (iw V h.nx) (h.new .pU) (w.alloc (.deferred (some []))):=
   R.alloc (R.size hW) 0 0 (by show(w.alloc _).heap[_]?=_;rw[upd_same];exact qJ w _)
  have a1:=oz (V:=V) σ ⟨w.heap.size,0,0⟩ kE
  obtain⟨σ1,Na⟩:∃σ1,upd σ h.nx ⟨w.heap.size,0,0⟩=σ1:=⟨_,rfl⟩
  obtain⟨w1,hw1⟩:∃w1,w.alloc (.deferred (some []))=w1:=⟨_,rfl⟩
  have hs1:(σ1 h.nx).blk=w.heap.size:=by rw[←Na,upd_same]
  rw[Na,hw1]at R1
  rw[Na]at a1
  have hV1:iw V h.nx h.nx:=.inr rfl
  have aiU:¬iw V h.nx (h.nx+1):=by rintro(hv|hv);exact absurd (R.vx _ hv) (by omega);omega
  have a2:=oz (V:=iw V h.nx) σ1 ⟨w1.heap.size,0,0⟩ aiU
  have GN:=(ha.tm.jb a1 (fun _ hx=>Or.inl hx):ou σ1 (iw V h.nx) m.tmps m.nt a.tmps)
  let L:ML:=⟨.ready,none,m.tmps,m.nt,ps.toList,assign,body,h.nx⟩
  have R2:Rel E.G B W0 (upd σ1 (h.nx+1) ⟨w1.heap.size,0,0⟩) (iw (iw V h.nx) (h.nx+1)) ((h.new .pU).new (.loop L)) (w1.alloc (.loop {state:=.ready,pending:=none,fn,tmps:=a.tmps,params:=ps,assign,body,defers:=w.heap.size})):=by
   refine R1.alloc (R1.size hW) 0 0 ⟨a.tmps,fn,?_,GN.jb a2 (fun _ hx=>.inl hx),.inl hV1⟩
   show(w1.alloc _).heap[_]?=_
   rw[MH.agZ,upd_same]
   refine(qJ w1 _).trans ?_
   simp only[nz,L,a2 _ hV1,hs1]
  refine⟨[{target:=.collected w.heap.size,args:=#[]}],_,_,_,?_,a1.trans (fun _ hx=>.inl hx) a2,fun _ hx=>.inl (.inl hx),?_,by simp;omega,R2,.inr rfl,?_⟩
  ·unfold Instr.enterLoop
   simp only[upd_same]
   rw[Sem.bind_ok (ah0 _ w),hw1]
   simp only[pure_bind]
   rfl
  ·rintro id ((hv|hv)|hv)
   ·exact .inl hv
   ·exact .inr (by omega)
   ·exact .inr (by omega)
  ·refine⟨(GN.jb a2 (fun _ hx=>.inl hx)),?_,?_⟩
   ·simp only[List.map_cons,List.singleton_append,vH,a2 _ hV1,hs1,List.cons.injEq,true_and]
    rw[ha.df]
    exact List.map_congr_left fun d hd=>by
     have e1:=a1 d (ha.dv d hd)
     have e2:=a2 d (.inl (ha.dv d hd))
     simp only[vH,e2,e1]
   ·intro d hd
    rcases List.mem_cons.1 hd with rfl|hd
    ·exact .inl hV1
    ·exact .inl (.inl (ha.dv d hd))
 ·dsimp only at ho
  split at ho
  ·rename_i L0 hg
   simp only[Option.some.injEq,Prod.mk.injEq]at ho
   obtain⟨rfl,rfl,rfl⟩:=ho
   obtain⟨tm0,fn0,b1,b2,b3⟩:=R.blk l0 _ hv0 hg
   have a1:=oz (V:=V) σ ⟨w.heap.size,0,0⟩ kE
   have R2:Rel E.G B W0 (upd σ h.nx ⟨w.heap.size,0,0⟩) (iw V h.nx) (h.new (.loop ⟨.ready,none,m.tmps,m.nt,ps.toList,assign,body,L0.defers⟩))
     (w.alloc (.loop {state:=.ready,pending:=none,fn,tmps:=a.tmps,params:=ps,assign,body,defers:=(σ L0.defers).blk})):=by
    refine R.alloc (R.size hW) 0 0 ⟨a.tmps,fn,?_,ha.tm.jb a1 (fun _ hx=>.inl hx),.inl b3⟩
    rw[upd_same]
    refine(qJ w _).trans ?_
    simp only[nz,a1 _ b3]
   refine⟨[],_,_,_,?_,a1,fun _ hx=>.inl hx,fun _ hx=>hx.imp (fun x=>x) (fun e=>Nat.le_of_eq e.symm),Nat.le_succ _,R2,.inr rfl,?_⟩
   ·unfold Instr.enterLoop
    simp only[upd_same]
    rw[Sem.bind_ok (Df (P:=P) b1)]
    simp only[pure_bind,nz]
    rfl
   ·exact(ha.jb a1 (fun _ hx=>Or.inl hx):iW _ (iw V h.nx) m a)
  ·cases ho
end
end Go.aI
namespace Go.aI
variable [O:dw]
open Go.RowKit
section
variable {E:Env} {P:Program} {B:Nat→Prop} {W0:World}
def zO(E:Env)(P:Program)(B:Nat→Prop)(W0:World)(go:Task→MH→Option (MV×MH)):Prop:=
 ∀(id:Nat) (ops:Array Oper) (l:List PE) (m m':MA) (h h':MH),FP ops=some l→kQ E go ops l [] m h=some (m',h')→∀σ V w a r,Rel E.G B W0 σ V h w→iW σ V m a→
  (Code.region id ops true).wpIn (fence r) 0 P (fun e a' w'=>e=.normal∧After E.G B W0 σ V h h' w' fun σ' V'=>iW σ' V' m' a') a w
theorem aiV{σ:Sg}{V:Nat→Prop}{h:MH}{w:World}{m:MA}{l:Nat}{o:MO}(R:Rel E.G B W0 σ V h w)(hG:E.G.ro≤l)(hl:V l)(ho:Ls l m h=some o) :
  ∃jump w',(Instr.endLoop (σ l).blk).run P w=.ok jump w'∧zD jump=some o.e∧o.a=m∧o.h.nx=h.nx∧Rel E.G B W0 σ V o.h w':=by
 unfold Ls at ho
 split at ho
 ·rename_i L hg
  obtain⟨tm,fn,b1,b2,b3⟩:=R.blk l _ hl hg
  have fin:∀e,L.state≠.busy→zD L.pending=some e→o=⟨e,m,h.set l (.loop {L with state:=.exhausted})⟩→_:=fun e hs he hoe=>
   (show ∃jump w',(Instr.endLoop (σ l).blk).run P w=.ok jump w'∧zD jump=some o.e∧o.a=m∧o.h.nx=h.nx∧Rel E.G B W0 σ V o.h w' by
    subst hoe
    refine⟨L.pending,w.putObj (σ l).blk (.loop (nz σ {L with state:=.exhausted} tm fn)),?_,he,rfl,rfl,R.write hl hg rfl hG _ ⟨tm,fn,World.putObj_heap_same (R.lt hl hg rfl),b2,b3⟩⟩
    unfold Instr.endLoop
    rw[Sem.bind_ok (Df (P:=P) b1)]
    rw[if_neg (by simp only[nz];simpa using hs)]
    rw[Sem.bind_ok (run_setObj_loop (P:=P) _ b1)]
    rfl)
  split at ho
  ·cases ho
  ·rename_i hs
   split at ho
   ·rename_i e he
    exact fin e hs he (Option.some.inj ho).symm
   ·cases ho
 ·cases ho
theorem aiW(hE:bT E P)(hW:∀k,B k→k<W0.heap.size){go:Task→MH→Option (MV×MH)}(hgo:oD E P B W0 go)(hd:zO E P B W0 go)(rd:Option Nat){ih:Ih}
  (hih:GM E P B W0 rd ih):GM E P B W0 rd (uY E go rd ih):=by
 intro c m h o ho σ V w a r R ha hr
 have here:∀e,o=⟨e,m,h⟩→MZ E.G B W0 σ V h o (ex e) a w:=fun e he=>by
  subst he;exact⟨rfl,σ,V,dJ.refl _ _,fun _ hx=>hx,fun _ hx=>.inl hx,Nat.le_refl _,R,ha⟩
 cases c with
 |skip=>exact wpIn_skip (here .normal (Option.some.inj ho).symm)
 |label l=>exact wpIn_label (here .normal (Option.some.inj ho).symm)
 |ret=>exact wpIn_ret (here .ret (Option.some.inj ho).symm)
 |exit id=>exact wpIn_exit (here (.exit id) (Option.some.inj ho).symm)
 |goto l=>exact wpIn_goto (here (.goto l) (Option.some.inj ho).symm)
 |refuse why=>cases ho
 |seq x y=>
  simp only[uY,UJ]at ho
  refine wpIn_seq ?_
  split at ho
  ·rename_i m1 h1 hx
   refine wpIn_mono (hih x m h _ hx σ V w a r R ha hr) ?_
   rintro e a1 w1 ⟨rfl,σ1,V1,g1,g2,g3,g4,g5,g6⟩
   exact wpIn_mono (hih y m1 h1 o ho σ1 V1 w1 a1 r g5 g6 (hr.jb g1 g2)) (fun e a2 w2 hq=>⟨hq.1,hq.2.trans g1 g2 g3 g4⟩)
  ·rename_i hn
   refine wpIn_mono (hih x m h o ho σ V w a r R ha hr) ?_
   rintro e a1 w1 ⟨rfl,hA⟩
   cases hoe:o.e with
   |normal=>exact absurd ho (by obtain⟨e,a',h'⟩:=o;simp only at hoe;subst hoe;exact hn _ _)
   |exit id=>exact⟨by rw[hoe],hA⟩
   |goto l=>exact⟨by rw[hoe],hA⟩
   |ret=>exact⟨by rw[hoe],hA⟩
 |cond c x y=>
  simp only[uY,UK]at ho
  split at ho
  ·rename_i b hc
   have:=(zM R ha c _ hc).2
   refine wpIn_cond (t:=b) this ?_
   have:=hih _ m h o ho σ V w a r R ha hr
   cases b<;>exact this
  ·cases ho
 |block id c=>
  simp only[uY,UL]at ho
  refine wpIn_block ?_
  split at ho
  ·rename_i id' m1 h1 hx
   cases ho
   refine wpIn_mono (hih c m h _ hx σ V w a r R ha hr) ?_
   rintro e a1 w1 ⟨rfl,hA⟩
   simp only[ex,Exit.inBlock]
   cases hb:Nat.beq id' id with
   |true=>
    have:=Nat.eq_of_beq_eq_true hb
    rw[if_pos this]
    exact⟨rfl,hA⟩
   |false=>
    have:id'≠id:=fun e=>by subst e;rw[Nat.beq_refl]at hb;cases hb
    rw[if_neg this]
    exact⟨rfl,hA⟩
  ·rename_i hn
   refine wpIn_mono (hih c m h o ho σ V w a r R ha hr) ?_
   rintro e a1 w1 ⟨rfl,hA⟩
   cases hoe:o.e with
   |normal=>exact⟨by rw[hoe],hA⟩
   |exit id'=>exact absurd ho (by obtain⟨e,a',h'⟩:=o;simp only at hoe;subst hoe;exact hn _ _ _)
   |goto l=>exact⟨by rw[hoe],hA⟩
   |ret=>exact⟨by rw[hoe],hA⟩
 |loop c=>exact wpIn_loop_rounds 100000 (aiS hih c 100000 m h o ho σ V w a r R ha hr)
 |scope c=>
  simp only[uY,UM]at ho
  refine aiO ?_
  split at ho
  ·rename_i l m1 h1 hx
   split at ho
   ·rename_i c' hc'
    refine wpIn_mono (hih c m h _ hx σ V w a r R ha hr) ?_
    rintro e a1 w1 ⟨rfl,σ1,V1,g1,g2,g3,g4,g5,g6⟩
    refine⟨c',hc',?_⟩
    split at ho
    ·cases ho
    ·rename_i hn
     refine wpIn_mono (hih c' m1 h1 o ho σ1 V1 w1 a1 r g5 g6 (hr.jb g1 g2)) ?_
     rintro e a2 w2 ⟨rfl,hA⟩
     have hA:=hA.trans g1 g2 g3 g4
     cases hoe:o.e with
     |normal=>exact⟨by rw[hoe],hA⟩
     |exit id'=>exact⟨by rw[hoe],hA⟩
     |goto l'=>exact absurd ho (by obtain⟨e,a',h'⟩:=o;simp only at hoe;subst hoe;exact hn _ _ _)
     |ret=>exact⟨by rw[hoe],hA⟩
   ·cases ho
  ·rename_i hn
   refine wpIn_mono (hih c m h o ho σ V w a r R ha hr) ?_
   rintro e a1 w1 ⟨rfl,hA⟩
   cases hoe:o.e with
   |normal=>exact⟨by rw[hoe],hA⟩
   |exit id'=>exact⟨by rw[hoe],hA⟩
   |goto l'=>exact absurd ho (by obtain⟨e,a',h'⟩:=o;simp only at hoe;subst hoe;exact hn _ _ _)
   |ret=>exact⟨by rw[hoe],hA⟩
 |region id ops draw=>
  simp only[uY,UN]at ho
  split at ho
  ·rename_i m1 h1 hx
   cases ho
   cases draw with
   |true=>
    simp only[cond_true]at hx
    split at hx
    ·rename_i l hl
     exact hd id ops l m m1 h h1 hl hx σ V w a r R ha
    ·cases hx
   |false=>
    simp only[cond_false]at hx
    cases hns:ops.toList.all xu with
    |false=>rw[hns]at hx;cases hx
    |true=>
     rw[hns]at hx
     simp only[cond_true]at hx
     refine wpIn_region_list (aiL hE hW hgo r ops ops.toList (fun o ho c hc=>?_) σ V h w m m1 h1 a R ha hx (fun a' w' hA=>⟨rfl,hA⟩))
     have:=List.all_eq_true.1 hns o ho
     simp[xu,hc]at this
  ·cases ho
 |rangeFunc f ps assign body=>
  simp only[uY,UO]at ho
  split at ho
  ·rename_i g first captured hf
   obtain⟨f1,f2⟩:=zM R ha f _ hf
   simp only[wf]at f1
   split at ho
   ·rename_i l m1 h1 am9 hent
    split at ho
    ·rename_i u h2 hcall
     refine wpIn_rangeFunc ?_
     intro fn _
     obtain⟨mark,w1,σ1,V1,e1,g1,g2,g3,g4,g5,g6,g7⟩:=aiT (P:=P) hW R ha hr hent fn
     obtain⟨F,hF,hbody,aiX⟩:=hgo.1 g _ h1 u h2 hcall
     obtain⟨hF1,hF2⟩:=hE.fns g F hF
     have aiY:wfs σ1 V1 (first++[.dh l]++captured):=vF.2 ⟨vF.2 ⟨pV g1 g2 _ f1.1,by simp only[wfs];exact⟨g6,trivial⟩⟩,pV g1 g2 _ f1.2⟩
     have hlG:E.G.ro≤l:=by
      rcases hr with⟨rfl,-⟩|⟨l0,rfl,-,-⟩
      ·simp only[Cm,Option.some.injEq,Prod.mk.injEq]at hent
       obtain⟨rfl,-,-⟩:=hent
       exact Nat.le_succ_of_le R.gx
      ·simp only[Cm]at hent
       split at hent
       ·simp only[Option.some.injEq,Prod.mk.injEq]at hent
        obtain⟨rfl,-,-⟩:=hent
        exact R.gx
       ·cases hent
     have hres:(resolve a.eval (rangeCall f (σ1 l).blk) 0).run P w1=.ok {target:=.fn (.func g) ⟨aF σ1 captured⟩,args:=⟨aF σ1 first⟩++#[.func (.yield (σ1 l).blk) #[] #[]]} w1:=by
      unfold resolve
      simp only[f2,ae,Deferred.ofValue]
      rw[xB g1 _ f1.1,xB g1 _ f1.2]
      simp[Act.eval]
     have hinv:(invoke (.fn (.func g) ⟨aF σ1 captured⟩) (⟨aF σ1 first⟩++#[.func (.yield (σ1 l).blk) #[] #[]])).run P w1=.ok (.enter g ⟨aF σ1 (first++[.dh l]++captured)⟩) w1:=by
      unfold invoke callFunc
      simp only[]
      rw[Sem.bind_ok (show(program).run P w1=.ok P w1 from rfl),hF1]
      simp only[]
      rw[if_neg (by simpa using hF2),if_neg (by simp[Option.isNone_iff_eq_none];intro e;rw[e]at hbody;cases hbody)]
      simp only[Sem.run_pure]
      congr 2
      rw[←Array.toList_inj]
      simp[dS,ae]
     refine⟨(σ1 l).blk,mark,w1,_,w1,g,_,w1,by rw[aiI];exact e1,hres,fun f' _=>vI r f',hinv,fun hd=>(by rw[Dc]at hd;cases hd),MS ?_⟩
     refine(aiX σ1 V1 w1 g5 aiY).mono ?_
     rintro e w2 ⟨σ2,V2,k1,k2,k3,k4,k5,k6,rfl⟩
     obtain⟨jump,w3,j1,j2,j3,j4,j5⟩:=aiV (P:=P) k5 hlG (k2 l g6) ho
     have hl2:(σ2 l).blk=(σ1 l).blk:=by rw[k1 l g6]
     rw[hl2]at j1
     refine⟨jump,w3,j1,?_⟩
     have hA:After E.G B W0 σ V h o.h w3 (fun σ' V'=>iW σ' V' o.a {a with defers:=mark++a.defers}):=by
      refine After.trans g1 g2 g3 g4 (After.trans k1 k2 k3 k4 ?_)
      exact⟨σ2,V2,dJ.refl _ _,fun _ hx=>hx,fun _ hx=>.inl hx,Nat.le_of_eq j4.symm,j5,by rw[j3];exact g7.jb k1 k2⟩
     cases jump with
     |none=>
      simp only[zD,Option.some.injEq]at j2
      exact⟨by rw[←j2];rfl,hA⟩
     |some c=>
      dsimp only
      cases c<;>simp only[zD]at j2<;>first|(cases j2;done)|skip
      ·rename_i id
       exact wpIn_exit ⟨by rw[←Option.some.inj j2];rfl,hA⟩
      ·rename_i l'
       exact wpIn_goto ⟨by rw[←Option.some.inj j2];rfl,hA⟩
      ·exact wpIn_ret ⟨by rw[←Option.some.inj j2];rfl,hA⟩
    ·cases ho
   ·cases ho
  ·cases ho
theorem Nb(hE:bT E P)(hW:∀k,B k→k<W0.heap.size){go:Task→MH→Option (MV×MH)}(hgo:oD E P B W0 go)(hd:zO E P B W0 go)(rd:Option Nat) :
  ∀n,GM E P B W0 rd (code E go rd n):=by
 intro n
 induction n with
 |zero=>intro c m h o ho;cases ho
 |succ n ih=>exact aiW hE hW hgo hd rd ih
end
end Go.aI
