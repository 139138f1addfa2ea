/- A part of the proof. -/
import Derived.Test.YtibhckkjciflaaaGreatDoorA04
namespace Go.aI
variable [O:dw]
open Go.RowKit
section ops
variable {E:Env} {P:Program} {B:Nat→Prop} {W0:World} {σ:Sg} {V:Nat→Prop} {h:MH} {w:World} {ev:Ev} {ρ:Operand→Value}
theorem Gj(hev:fB σ V ev ρ){args:Array Operand}{vs:List MV}(h:evs ev args.toList=some vs):wfs σ V vs∧args.map ρ=⟨aF σ vs⟩:=by
 obtain⟨h1,h2⟩:=LM hev _ _ h
 exact⟨h1,by rw[←Array.toList_inj];simp[h2]⟩
theorem ahK(hE:bT E P)(R:Rel E.G B W0 σ V h w){t:TypeId}{ats:Array TypeId}{ty:TypeId}{x v:MV}(h0:ats[0]?=some t)(hx:wf σ V x)(ho:Cb E t x h=some (.val v)) :
  wf σ V v∧(Builtin.len_ ats ty ⟨[ae σ x]⟩).run P w=.ok (ae σ v) w:=by
 unfold Cb at ho
 split at ho
 ·rename_i T hT
  have hu:=(hE.ty t T hT).2
  unfold Builtin.len_
  simp only[h0]
  rw[show((⟨[ae σ x]⟩:Array Value)[0]?:Option Value)=some (ae σ x) from rfl]
  simp only[]
  rw[Sem.bind_ok (dD hu w)]
  split at ho
  ·rename_i n e hd
   cases ho
   exact⟨trivial,by simp only[hd];rfl⟩
  ·rename_i a hd
   split at ho
   ·rename_i Ta hTa
    have hua:=(hE.ty a Ta hTa).2
    split at ho
    ·rename_i n e hda
     cases ho
     refine⟨trivial,?_⟩
     simp only[hd]
     rw[Sem.bind_ok (dD hua w)]
     simp only[hda]
     rfl
    ·cases ho
   ·cases ho
  ·rename_i hd
   split at ho
   ·rename_i s
    cases ho
    refine⟨trivial,?_⟩
    simp only[hd,ae,qI,jl]
    rfl
   ·cases ho
  ·rename_i e hd
   split at ho
   ·cases ho
   ·cases ho
   ·cases ho
   ·rename_i h1 h2 h3
    split at ho
    ·rename_i n hn
     cases ho
     refine⟨trivial,?_⟩
     have:∃a c,ae σ x=.slice a n c:=by
      cases x<;>simp only[nZ]at hn<;>first|(cases hn;done)|(cases hn;exact⟨_,_,rfl⟩)|exact absurd rfl (h1 _)|exact absurd rfl h2|exact absurd rfl (h3 _)
     obtain⟨a,c,hx'⟩:=this
     simp only[hd,hx']
     rfl
    ·cases ho
  ·rename_i kt el hd
   split at ho
   ·rename_i es c hm
    cases ho
    refine⟨trivial,?_⟩
    obtain⟨-,hmm⟩:=U9 R hx hm
    rcases hmm with⟨rfl,rfl⟩|⟨id,rfl,hv,hg,hw⟩
    ·simp only[hd,ae];rfl
    ·simp only[hd,ae]
     rw[Sem.bind_ok (sW hw)]
     simp[goInt,jl]
   ·cases ho
  ·cases ho
 ·cases ho
theorem ahN(hE:bT E P){t:TypeId}{ats:Array TypeId}{ty:TypeId}{x v:MV}(h0:ats[0]?=some t)(ho:Cc E t x=some (.val v))(w:World) :
  wf σ V v∧(Builtin.cap_ ats ty ⟨[ae σ x]⟩).run P w=.ok (ae σ v) w:=by
 unfold Cc at ho
 split at ho
 ·rename_i T hT
  have hu:=(hE.ty t T hT).2
  unfold Builtin.cap_
  simp only[h0]
  rw[show((⟨[ae σ x]⟩:Array Value)[0]?:Option Value)=some (ae σ x) from rfl]
  simp only[]
  rw[Sem.bind_ok (dD hu w)]
  split at ho
  ·rename_i e id off len c hd
   cases ho
   exact⟨trivial,by simp only[hd,ae];rfl⟩
  ·rename_i e hd
   cases ho
   exact⟨trivial,by simp only[hd,ae];rfl⟩
  ·cases ho
 ·cases ho
theorem ahO{ats:Array TypeId}{ty:TypeId}{x y v:MV}(ho:KX x y=some v)(w:World):wf σ V v∧(Builtin.min_ ats ty ⟨[ae σ x,ae σ y]⟩).run P w=.ok (ae σ v) w:=by
 unfold KX at ho
 split at ho
 ·cases ho
  refine⟨trivial,?_⟩
  simp[Builtin.min_,Builtin.min2,ae]
 ·cases ho
theorem ahP{ats:Array TypeId}{ty:TypeId}{x y v:MV}(ho:KY x y=some v)(w:World):wf σ V v∧(Builtin.max_ ats ty ⟨[ae σ x,ae σ y]⟩).run P w=.ok (ae σ v) w:=by
 unfold KY at ho
 split at ho
 ·cases ho
  refine⟨trivial,?_⟩
  simp[Builtin.max_,Builtin.max2,ae]
 ·cases ho
omit O in
theorem gp{s:Sem Value}{v:Value}{w w':World}(h:s.run P w=.ok v w'):(do pure (.value (←s)):Sem Next).run P w=.ok (.value v) w':=by
 rw[Sem.bind_ok h];rfl
omit O in
theorem L9{s:Sem Unit}{w w':World}(h:s.run P w=.ok () w'):(do s;pure .skip:Sem Next).run P w=.ok .skip w':=by
 rw[Sem.bind_ok h];rfl
omit O in
theorem vC{α:Type}(a:Array α)(n:Nat):iU a.toList n=a[n]?:=by rw[uZ];simp
omit O in
theorem xH{o:Option (MV×MH)}{v:MV}(ho:lC o=some (.val v)):False:=by
 unfold lC at ho;split at ho<;>cases ho
omit O in
theorem CU{o:Option (gW×MB)}{v:MV}(ho:mi o=some (.val v)):False:=by
 unfold mi at ho;split at ho<;>cases ho
omit O in
theorem vF{a b:List MV}:wfs σ V (a++b)↔wfs σ V a∧wfs σ V b:=by
 rw[fP,fP,fP]
 constructor
 ·exact fun h=>⟨fun v hv=>h v (List.mem_append.2 (.inl hv)),fun v hv=>h v (List.mem_append.2 (.inr hv))⟩
 ·rintro⟨h1,h2⟩ v hv
  rcases List.mem_append.1 hv with hv|hv
  ·exact h1 v hv
  ·exact h2 v hv
theorem ahQ(hE:bT E P)(R:Rel E.G B W0 σ V h w)(hev:fB σ V ev ρ){c:Call}{v:MV}(o:Oper)(hop:o.op=.call c)(ho:sO E ev c h=some (.val v)) :
  wf σ V v∧(execOp ρ o).run P w=.ok (.value (ae σ v)) w:=by
 unfold sO at ho
 split at ho
 ·cases ho
 ·rename_i args hargs
  obtain⟨a1,a2⟩:=Gj hev hargs
  unfold execOp
  simp only[hop]
  split at ho
  ·rename_i b hb
   have hres:(resolve ρ c o.type).run P w=.ok {target:=.builtin b c.argTypes o.type (c.args.map fun | .const _=>true|_=>false),args:=⟨aF σ args⟩} w:=by
    unfold resolve;simp only[hb,a2];rfl
   rw[Sem.bind_ok hres]
   unfold KZ at ho
   split at ho
   ·rename_i x
    have hx:wf σ V x:=by simp only[wfs]at a1;exact a1.1
    split at ho
    ·rename_i t ht
     rw[vC]at ht
     obtain⟨r1,r2⟩:=ahK (ty:=o.type) hE R ht hx ho
     exact⟨r1,gp r2⟩
    ·rename_i t ht
     rw[vC]at ht
     obtain⟨r1,r2⟩:=ahN (σ:=σ) (V:=V) (ty:=o.type) hE ht ho w
     exact⟨r1,gp r2⟩
    ·cases ho
   ·rename_i x y
    split at ho
    iterate 2
     ·exact(xH ho).elim
    ·split at ho
     ·exact(xH ho).elim
     ·cases ho
    ·obtain⟨r1,r2⟩:=ahO (P:=P) (σ:=σ) (V:=V) (ats:=c.argTypes) (ty:=o.type) (oC ho) w
     exact⟨r1,gp r2⟩
    ·obtain⟨r1,r2⟩:=ahP (P:=P) (σ:=σ) (V:=V) (ats:=c.argTypes) (ty:=o.type) (oC ho) w
     exact⟨r1,gp r2⟩
    ·cases ho
   ·cases ho
  ·rename_i fo hfo
   split at ho
   ·rename_i f hf
    obtain⟨f1,f2⟩:=hev fo f hf
    unfold Lc at ho
    split at ho
    ·rename_i g a b
     unfold La at ho
     split at ho
     ·rename_i k hk
      simp only[wf]at f1
      have hw:wfs σ V (a++args++b):=vF.2 ⟨vF.2 ⟨f1.1,a1⟩,f1.2⟩
      obtain⟨r1,r2⟩:=hE.ext g k hk σ V _ v ho hw
      refine⟨r1,?_⟩
      have hres:(resolve ρ c o.type).run P w=.ok {target:=.fn (.func g) ⟨aF σ b⟩,args:=⟨aF σ a⟩++⟨aF σ args⟩} w:=by
       unfold resolve;simp only[hfo,a2,f2,ae,Deferred.ofValue];rfl
      rw[Sem.bind_ok hres]
      unfold invoke
      simp only[]
      have:=r2 w
      rw[dS,List.map_append,List.map_append,←dS,←dS,←dS]at this
      simpa using this
     ·cases ho
    ·cases ho
    ·cases ho
   ·cases ho
  ·cases ho
omit O in
theorem Vd(s:Nat)(e:ME)(l:List ME):BZ s (e::l)=Bool.rec (BZ s l) (some e) (Nat.beq e.born s):=rfl
theorem ahR(σ:Sg)(s:Nat):∀l:List ME,(l.map (eG σ)).find? (fun e=>e.born == s)=(BZ s l).map (eG σ):=by
 intro l
 induction l with
 |nil=>rfl
 |cons e l ih=>
  rw[Vd,List.map_cons,List.find?_cons]
  have:((eG σ e).born == s)=Nat.beq e.born s:=by simp only[eG];rw[Bool.eq_iff_iff,beq_iff_eq,Nat.beq_eq]
  rw[this]
  cases Nat.beq e.born s with
  |true=>rfl
  |false=>exact ih
omit O in
theorem ahS{s:Nat}{e:ME}:∀{l:List ME},BZ s l=some e→e∈l:=by
 intro l
 induction l with
 |nil=>intro h;cases h
 |cons a l ih=>
  intro h
  rw[Vd]at h
  cases hb:Nat.beq a.born s with
  |true=>rw[hb]at h;cases h;exact List.mem_cons_self ..
  |false=>rw[hb]at h;exact List.mem_cons_of_mem _ (ih h)
omit O in
theorem ahT(n:Nat)(l:List Nat):FD (n::l)=Option.rec (some n) (fun m=>some m) (FD l):=rfl
omit O in
theorem ahU:∀l:List Nat,FD l=l.getLast?:=by
 intro l
 induction l with
 |nil=>rfl
 |cons n l ih=>
  rw[ahT,ih,List.getLast?_cons]
  cases l.getLast?<;>rfl
omit O in
theorem ahV{P:Program}{w:World}{r:Nat}{m:Option Nat}{s c:Nat}{seen:Array Nat}(hb:w.heap[r]?=some (.mapIter m s seen c)):(getObj r).run P w=.ok (.mapIter m s seen c) w:=by
 simp[getObj,Sem.run,hb]
theorem ahW(R:Rel E.G B W0 σ V h w)(hev:fB σ V ev ρ){it:Operand}{v:MV}(ho:FO ev it h=some v) :
  wf σ V v∧(Instr.entry (ρ it)).run P w=.ok (ae σ v) w:=by
 unfold FO at ho
 split at ho
 ·rename_i iv hi
  obtain⟨x1,x2⟩:=hev it _ hi
  unfold UG at ho
  split at ho
  ·rename_i r
   simp only[wf]at x1
   split at ho
   ·rename_i m since seen stepped hg
    split at ho
    ·rename_i es clock hm
     obtain⟨b1,b2,b3⟩:=R.blk r _ x1 hg
     simp only[Option.map_some]at b1
     obtain⟨m1,m2⟩:=R.blk m _ (b3 m rfl) hm
     cases hq:Nat.beq clock stepped with
     |false=>rw[hq]at ho;cases ho
     |true=>
      rw[hq]at ho
      simp only[cond_true]at ho
      have hq:clock=stepped:=Nat.eq_of_beq_eq_true hq
      subst hq
      split at ho
      ·rename_i s hs
       split at ho
       ·rename_i e he
        cases ho
        have hme:=m2 e (ahS he)
        refine⟨by simp only[wf,wfs];exact⟨hme.1,hme.2,trivial⟩,?_⟩
        rw[x2]
        unfold Instr.entry
        simp only[ae,b2]
        rw[Sem.bind_ok (ahV b1)]
        simp only[]
        have hback:(⟨seen⟩:Array Nat).back?=some s:=by rw[ahU]at hs;rw[←hs];simp[Array.back?,List.getLast?_eq_getElem?]
        simp only[hback]
        rw[Sem.bind_ok (sW m1)]
        have hfind:(⟨es.map (eG σ)⟩:Array MapEntry).find? (fun x=>x.born == s)=some (eG σ e):=by
         have:=ahR σ s es
         rw[he]at this
         simpa using this
        simp only[hfind]
        simp[eG,aF]
       ·cases ho
      ·cases ho
    ·cases ho
   ·cases ho
  ·cases ho
 ·cases ho
theorem look_ok(hE:bT E P)(R:Rel E.G B W0 σ V h w)(hev:fB σ V ev ρ)(o:Oper){v:MV}(ho:fD E ev o.op h=some (.val v)) :
  wf σ V v∧(execOp ρ o).run P w=.ok (.value (ae σ v)) w:=by
 cases hop:o.op<;>rw[hop]at ho<;>simp only[fD]at ho<;>first|(cases ho;done)|skip
 case call c=>exact ahQ hE R hev o hop ho
 case nilCheck x=>exact ahp hev hop ho w
 all_goals unfold execOp;simp only[hop]
 case move x=>obtain⟨h1,h2⟩:=hev x v (oC ho);exact⟨h1,by rw[h2];rfl⟩
 case assign x=>obtain⟨h1,h2⟩:=hev x v (oC ho);exact⟨h1,by rw[h2];rfl⟩
 case pick c a b=>exact aho hev ho w
 case build t parts=>obtain⟨h1,h2⟩:=ahJ hE hev ho w;exact⟨h1,gp h2⟩
 case load t x=>obtain⟨h1,h2⟩:=ag1 hE R hev ho;exact⟨h1,gp h2⟩
 case binOp op t x y yt=>obtain⟨h1,h2⟩:=ahm hE hev ho w;exact⟨h1,gp h2⟩
 case unOp op t x=>obtain⟨h1,h2⟩:=ahn (P:=P) hev ho w;exact⟨h1,gp h2⟩
 case convert s d x=>obtain⟨h1,h2⟩:=ahC hE R hev ho;exact⟨h1,gp h2⟩
 case makeFunc fn first captured=>obtain⟨h1,h2⟩:=ahq (P:=P) hev ho w;exact⟨h1,gp h2⟩
 case slice t x lo hi mx=>obtain⟨h1,h2⟩:=ahv hE hev ho w;exact⟨h1,gp h2⟩
 case fieldAddr t x f=>obtain⟨h1,h2⟩:=ag4 hE hev ho w;exact⟨h1,gp h2⟩
 case field t x f=>obtain⟨h1,h2⟩:=ag2 hE hev ho w;exact⟨h1,gp h2⟩
 case indexAddr t x i=>obtain⟨h1,h2⟩:=ag5 hE hev ho w;exact⟨h1,gp h2⟩
 case index t x i=>obtain⟨h1,h2⟩:=ahs hE hev ho w;exact⟨h1,gp h2⟩
 case lookup t m k ok=>obtain⟨h1,h2⟩:=ahF hE R hev ho;exact⟨h1,gp h2⟩
 case extract t i=>obtain⟨h1,h2⟩:=ahr (P:=P) hev ho w;exact⟨h1,gp h2⟩
 case entry it=>obtain⟨h1,h2⟩:=ahW R hev (oC ho);exact⟨h1,gp h2⟩
 case alloc=>exact(CU ho).elim
 case box=>exact(CU ho).elim
 case buildSlice=>exact(CU ho).elim
 case makeMap=>exact(CU ho).elim
 case makeSlice=>exact(CU ho).elim
 case store=>exact(xH ho).elim
 case mapUpdate=>exact(xH ho).elim
 case insert=>exact(xH ho).elim
 case range=>exact(xH ho).elim
 case next=>exact(xH ho).elim
end ops
end Go.aI
namespace Go.aI
variable [O:dw]
open Go.RowKit
omit O in
theorem Gl{w:World}{b:Nat}{o:Obj}(h:w.heap[b]?=some o):w.putObj b o=w:=by
 have:w.heap.setIfInBounds b o=w.heap:=by
  apply Array.ext_getElem?
  intro i
  rw[Array.getElem?_setIfInBounds]
  split
  ·rename_i e
   subst e
   obtain⟨hb,hv⟩:=Array.getElem?_eq_some_iff.1 h
   simp[hb,hv]
  ·rfl
 simp only[World.putObj,this]
omit O in
theorem ahX{w:World}{b:Nat}{o o':Obj}:(w.putObj b o).putObj b o'=w.putObj b o':=by
 simp only[World.putObj]
 congr 1
 apply Array.ext_getElem?
 intro i
 simp only[Array.getElem?_setIfInBounds]
 split<;>simp
omit O in
theorem ahY{w:World}{b o:Nat}{c:Array Value}{t:TypeId}{fz:Nat×Nat}{v:Value}(h:w.heap[b]?=some (.cells c t fz)) :
  w.setCell ⟨b,o,none⟩ v=w.putObj b (.cells (c.setIfInBounds o v) t fz):=by
 simp only[World.setCell,World.putObj]
 congr 1
 apply Array.ext_getElem?
 intro i
 rw[Array.getElem?_modify,Array.getElem?_setIfInBounds]
 split
 ·rename_i e
  subst e
  obtain⟨hb,-⟩:=Array.getElem?_eq_some_iff.1 h
  rw[h]
  simp[hb]
 ·rfl
theorem Mc(σ:Sg){v:MV}(h:one v=true):(ae σ v).oneCell'=true:=by
 cases v<;>simp only[one,Bool.false_eq_true]at h<;>first|rfl|exact O.one _
omit O in
theorem Ve{P:Program}{b o:Nat}{t:TypeId}{fz:Nat×Nat}:∀(vs:List Value) (i:Nat) (c:Array Value) (w:World),w.heap[b]?=some (.cells c t fz)→
  (fz.1=fz.2∨c.size≤fz.1)→o+i+vs.length≤c.size→(∀v∈vs,v.oneCell'=true)→
  (storeCells ⟨b,o,none⟩ vs i).run P w=.ok () (w.putObj b (.cells ⟨jD (o+i) vs c.toList⟩ t fz)):=by
 intro vs
 induction vs with
 |nil=>
  intro i c w h _ hl _
  unfold storeCells
  have:jD (o+i) [] c.toList=c.toList:=by
   apply List.ext_getElem?
   intro k
   rw[(mr (o+i) [] c.toList (by simpa using hl)).2,if_neg (by simp)]
  rw[this,Gl h]
  rfl
 |cons v vs ih=>
  intro i c w h hfz hl h1
  simp only[List.length_cons]at hl
  unfold storeCells
  have hlt:o+i<c.size:=by omega
  have hb:b<w.heap.size:=(Array.getElem?_eq_some_iff.1 h).1
  have hcell:w.cell? ⟨b,o+i,none⟩=some c[o+i]:=by simp[World.cell?,h,hlt]
  have hfr:w.frozen? ⟨b,o+i,none⟩=false:=by
   simp only[World.frozen?,h]
   rcases hfz with hfz|hfz
   ·simp;omega
   ·simp;omega
  have hst:(store (Addr.add ⟨b,o,none⟩ i) v).run P w=.ok () (w.putObj b (.cells (c.setIfInBounds (o+i) v) t fz)):=by
   rw[Addr.add_lit,run_store _ _ _ _ _ (h1 v (by simp)),hcell]
   simp only[hfr,Bool.false_eq_true,if_false]
   rw[ahY h]
  rw[Sem.bind_ok hst]
  rw[ih (i+1) (c.setIfInBounds (o+i) v) _ (World.putObj_heap_same hb) (by simpa using hfz) (by simp;omega) (fun x hx=>h1 x (by simp[hx]))]
  rw[ahX]
  congr 3
  apply congrArg
  apply List.ext_getElem?
  intro k
  have h1:=mr (o+(i+1)) vs (c.setIfInBounds (o+i) v).toList (by simp;omega)
  have h2:=mr (o+i) (v::vs) c.toList (by simp;omega)
  rw[h1.2,h2.2]
  simp only[List.length_cons,Array.toList_setIfInBounds,List.getElem?_set]
  by_cases e:k=o+i
  ·subst e
   rw[if_neg (by omega),if_pos rfl,if_pos (by simp;omega),if_pos (by omega)]
   simp
  ·by_cases e2:o+(i+1)≤k∧k<o+(i+1)+vs.length
   ·rw[if_pos e2,if_pos (by omega),show k-(o+i)=(k-(o+(i+1)))+1 by omega]
    simp
   ·rw[if_neg e2,if_neg (by omega),if_neg (by omega)]
section ops
variable {E:Env} {P:Program} {B:Nat→Prop} {W0:World} {σ:Sg} {V:Nat→Prop} {h:MH} {w:World} {ev:Ev} {ρ:Operand→Value}
theorem Md(R:Rel E.G B W0 σ V h w){id off:Nat}{vs:List MV}{h':MH}(hv:V id)(hvs:wfs σ V vs)(ho:xh E h id off vs=some h') :
  ∃w',Rel E.G B W0 σ V h' w'∧(storeCells ⟨(σ id).blk,(σ id).off+off,none⟩ (aF σ vs)).run P w=.ok () w'∧h'.nx=h.nx:=by
 unfold xh at ho
 cases hg:Nat.blt id E.G.ro with
 |true=>rw[hg]at ho;cases ho
 |false=>
  rw[hg]at ho
  simp only[cond_false]at ho
  have hG:E.G.ro≤id:=by
   rcases Nat.lt_or_ge id E.G.ro with hlt|hge
   ·rw[CS hlt]at hg;cases hg
   ·exact hge
  split at ho
  ·rename_i cs t es opn hb
   cases hc:(and (ones vs) (Nat.ble (Nat.add off (dC vs 0)) (dC cs 0)))with
   |false=>rw[hc]at ho;cases ho
   |true=>
    rw[hc]at ho
    simp only[cond_true,Option.some.injEq]at ho
    subst ho
    obtain⟨c1,c2⟩:=dL hc
    have c2:=Nat.le_of_ble_eq_true c2
    rw[jl,jl]at c2
    simp only[Nat.add_zero,Nat.add_eq]at c2
    obtain⟨c,fz,b1,b2,b3,b4,b5,b6⟩:=R.blk id _ hv hb
    have hlen:(aF σ vs).length=vs.length:=by rw[dS];simp
    have hsz:∀i,i<cs.length→(σ id).off+i<c.size:=fun i hi=>by
     have:=b4 i _ (List.getElem?_eq_getElem hi)
     exact(Array.getElem?_eq_some_iff.1 this).1
    have hfit:vs.length=0∨(σ id).off+off+vs.length≤c.size:=by
     rcases Nat.eq_zero_or_pos vs.length with h0|h0
     ·exact .inl h0
     ·have:=hsz (off+vs.length-1) (by omega)
      exact .inr (by omega)
    obtain⟨g1,g2,g3⟩:=L6 (σ:=σ) (V:=V) (off:=off) (vs:=vs) (cs:=cs) (by omega) hvs c1 b2 b3
    rcases hfit with h0|hfit
    ·have hnil:vs=[]:=List.eq_nil_of_length_eq_zero h0
     subst hnil
     have e:jD off [] cs=cs:=by
      apply List.ext_getElem?
      intro k
      rw[(mr off [] cs c2).2,if_neg (by simp)]
     refine⟨w,?_,rfl,rfl⟩
     have:=R.write hv hb rfl hG (.cells c t fz) (b:=.cells cs t es opn) (by rw[Gl b1];exact R.blk id _ hv hb)
     rw[Gl b1]at this
     rw[e];exact this
    ·refine⟨w.putObj (σ id).blk (.cells ⟨jD ((σ id).off+off) (aF σ vs) c.toList⟩ t fz),?_,?_,rfl⟩
     ·refine R.write hv hb rfl hG _ ⟨_,fz,World.putObj_heap_same (R.lt hv hb rfl),g1,g2,fun i v hi=>?_,fun hop=>?_,?_⟩
      ·have l1:=mr off vs cs c2
       have l2:=mr ((σ id).off+off) (aF σ vs) c.toList (by simp only[hlen,Array.length_toList];omega)
       rw[l1.2]at hi
       rw[List.getElem?_toArray,l2.2,hlen]
       by_cases e:off≤i∧i<off+vs.length
       ·rw[if_pos e]at hi
        rw[if_pos (by omega),dS,List.getElem?_map,show(σ id).off+i-((σ id).off+off)=i-off by omega,hi]
        rfl
       ·rw[if_neg e]at hi
        rw[if_neg (by omega),Array.getElem?_toList]
        exact b4 i v hi
      ·have l2:=mr ((σ id).off+off) (aF σ vs) c.toList (by simp only[hlen,Array.length_toList];omega)
       have:=b5 hop
       simp only[List.size_toArray,l2.1,Array.length_toList]
       exact this
      ·have l2:=mr ((σ id).off+off) (aF σ vs) c.toList (by simp only[hlen,Array.length_toList];omega)
       simp only[List.size_toArray,l2.1,Array.length_toList]
       exact b6
     ·have:=Ve (P:=P) (b:=(σ id).blk) (o:=(σ id).off+off) (aF σ vs) 0 c w b1 b6 (by rw[hlen];exact hfit) (fun v hv'=>by
       rw[dS]at hv'
       obtain⟨u,hu,rfl⟩:=List.mem_map.1 hv'
       exact Mc σ ((iq _).1 c1 u hu))
      simpa using this
  ·cases ho
omit O in
theorem Me{n:Nat}{z:List MV}(h:wfs σ V z):wfs σ V (List.replicate n z).flatten:=by
 rw[fP]at *
 intro v hv
 simp only[List.mem_flatten,List.mem_replicate]at hv
 obtain⟨l,⟨-,rfl⟩,hv⟩:=hv
 exact h v hv
omit O in
theorem MC{n:Nat}{z:List MV}(h:ones z=true):ones (List.replicate n z).flatten=true:=by
 rw[iq]at *
 intro v hv
 simp only[List.mem_flatten,List.mem_replicate]at hv
 obtain⟨l,⟨-,rfl⟩,hv⟩:=hv
 exact h v hv
theorem ahZ(n:Nat)(z:List MV):aF σ (List.replicate n z).flatten=(List.replicate n (aF σ z)).flatten:=by
 simp only[dS,List.map_flatten,List.map_replicate]
omit O in
theorem qJ(w:World)(o:Obj):(w.alloc o).heap[w.heap.size]?=some o:=by
 show(w.heap.push o)[w.heap.size]?=_
 simp
theorem Gm{cs:List MV}{t:TypeId}{es:Nat}{id:Nat}(hc:wfs σ V cs)(h1:ones cs=true)(hid:¬V id)(w:World) :
  iV (upd σ id ⟨w.heap.size,0,0⟩) (iw V id) id (w.alloc (.cells ⟨aF σ cs⟩ t)) (.cells cs t es false):=by
 have ha:=oz (V:=V) σ ⟨w.heap.size,0,0⟩ hid
 refine⟨⟨aF σ cs⟩,(0,0),?_,pV ha (fun _ hx=>.inl hx) _ hc,h1,fun i v hv=>?_,?_,?_⟩
 ·rw[upd_same];exact qJ w _
 ·rw[upd_same,qH ha v ((fP _).1 hc v (List.mem_of_getElem? hv)),dS]
  simp[hv]
 ·intro hf;cases hf
 ·exact .inl rfl
omit O in
theorem vG(t:TypeId)(c:Array Value)(w:World):(newRow t c).run P w=.ok ⟨w.heap.size,0,none⟩ (w.alloc (.cells c t)):=rfl
omit O in
theorem ah0(o:Obj)(w:World):(newObj o).run P w=.ok w.heap.size (w.alloc o):=rfl
theorem Vf{n s:Nat}{z:List MV}(hz:z.length=s)(h0:n*s=0)(f:Nat→Value):(Array.range (n*s)).map f=⟨aF σ (List.replicate n z).flatten⟩:=by
 have:(List.replicate n z).flatten=[]:=List.eq_nil_of_length_eq_zero (by simp[hz,h0])
 rw[this,h0];simp[aF]
theorem Gn{n s:Nat}{z:List MV}(hz:z.length=s) :
  ((Array.range (n*s)).map fun i=>(⟨aF σ z⟩:Array Value)[i % (⟨aF σ z⟩:Array Value).size]!)=⟨aF σ (List.replicate n z).flatten⟩:=by
 have:=ahH (aF σ z) n
 rw[show(aF σ z).length=s by rw[dS];simpa using hz]at this
 rw[ahZ]
 exact this
omit O in
theorem wrap_small{n:Nat}(h:n<2 ^ 62):IntKind.i64.wrap (Int.ofNat n)=(n:Int):=by
 unfold IntKind.wrap
 have e:(Int.ofNat n) % (2 ^ IntKind.i64.bits:Int)=n:=Int.emod_eq_of_lt (by simp) (by simp[IntKind.bits];omega)
 simp only[e]
 rw[if_neg (by simp[IntKind.bits];omega)]
omit O in
theorem Vg{o:Option MV}{k:gW}{b:MB}(ho:vR o=some (.new k b)):False:=by
 unfold vR at ho;split at ho<;>cases ho
omit O in
theorem Vh{o:Option (MV×MH)}{k:gW}{b:MB}(ho:lC o=some (.new k b)):False:=by
 unfold lC at ho;split at ho<;>cases ho
def gI(o:Option MR):Prop:=∀r,o=some r→∃v,r=.val v
omit O in
theorem pX(o:Option MV):gI (vR o):=by
 intro r h;unfold vR at h;split at h
 ·cases h;exact⟨_,rfl⟩
 ·cases h
omit O in
theorem gJ:gI none:=fun r h=>by cases h
omit O in
theorem lH(v:MV):gI (some (.val v)):=fun r h=>by cases h;exact⟨_,rfl⟩
omit O in
theorem xI{b:Bool}{x y:Option MR}(hx:gI x)(hy:gI y):gI (cond b x y):=by cases b<;>assumption
omit O in
theorem Gp(c a b:Operand):gI (yX ev c a b):=by
 unfold yX;split
 ·exact pX _
 ·exact gJ
omit O in
theorem ah1(o:Option (List MV)):gI (yY o):=by
 unfold yY;split
 ·exact lH _
 ·exact gJ
omit O in
theorem Gq(t:TypeId)(p:Array (Nat×Operand)):gI (yZ E ev t p):=by
 unfold yZ
 (repeat' split)<;>first|exact gJ|exact ah1 _
omit O in
theorem CV(t:TypeId)(x:Operand):gI (zf E ev t x h):=by
 unfold zf;split
 ·exact pX _
 ·exact gJ
omit O in
theorem Gt(x:Operand):gI (zg ev x):=by
 unfold zg
 split<;>first|exact gJ|exact lH _
omit O in
theorem ah2(op:BinOp)(t:TypeId)(x y:Operand):gI (zh E ev op t x y):=by
 unfold zh
 (repeat' split)<;>first|exact gJ|exact pX _|skip
 all_goals refine xI ?_ gJ
 all_goals first|exact gJ|exact lH _
omit O in
theorem Gu(op:BinOp)(t:TypeId)(x y:Operand):gI (zi E ev op t x y):=by
 unfold zi
 split
 ·exact lH _
 ·exact ah2 op t x y
omit O in
theorem Gv(op:UnOp)(x:Operand):gI (zk ev op x):=by
 unfold zk
 (repeat' split)<;>first|exact gJ|exact lH _|exact pX _
omit O in
theorem Gw(f:Fn)(a b:Array Operand):gI (zl ev f a b):=by
 unfold zl;split<;>first|exact gJ|exact lH _
omit O in
theorem ah3(id off cap es lo hi mx:Nat):gI (yS id off cap es lo hi mx):=xI (lH _) gJ
omit O in
theorem ah4(id off l len es lo hi:Nat):gI (Fj id off l len es lo hi):=xI (lH _) gJ
omit O in
theorem Gx(t:TypeId)(x:Operand)(lo hi mx:Option Operand):gI (zn E ev t x lo hi mx):=by
 unfold zn
 split
 ·split
  ·exact gJ
  ·unfold KU
   (repeat' split)<;>first|exact gJ|exact ah3 _ _ _ _ _ _ _|exact ah4 _ _ _ _ _ _ _|(refine xI ?_ gJ;first|exact lH _|exact gJ)
 ·exact gJ
omit O in
theorem Gy(t:TypeId)(x:Operand)(f:Nat):gI (zo E ev t x f):=by
 unfold zo
 (repeat' split)<;>first|exact gJ|exact xI gJ (lH _)
omit O in
theorem Gz(t:TypeId)(x:Operand)(f:Nat):gI (zq E ev t x f):=by
 unfold zq
 (repeat' split)<;>first|exact gJ|exact pX _
omit O in
theorem ah5(e:TypeId)(id off len i:Nat):gI (xn E e id off len i):=by
 unfold xn;split
 ·exact xI (lH _) gJ
 ·exact gJ
omit O in
theorem GG(t:TypeId)(x i:Operand):gI (zt E ev t x i):=by
 unfold zt
 (repeat' split)<;>first|exact gJ|exact ah5 _ _ _ _ _
omit O in
theorem GH(t:TypeId)(x i:Operand):gI (zu E ev t x i):=by
 unfold zu
 (repeat' split)<;>first|exact gJ|exact lH _|exact xI (pX _) gJ
omit O in
theorem CW(t:TypeId)(m k:Operand)(ok:Bool):gI (zx E ev t m k ok h):=by
 unfold zx
 split
 ·unfold KW
  (repeat' split)<;>first|exact gJ|exact lH _
 ·exact gJ
omit O in
theorem GI(t:Operand)(i:Nat):gI (zA ev t i):=by
 unfold zA;split
 ·exact pX _
 ·exact gJ
omit O in
theorem ah6(t:TypeId)(x:MV):gI (Cb E t x h):=by
 unfold Cb
 (repeat' split)<;>first|exact gJ|exact lH _
omit O in
theorem ah7(t:TypeId)(x:MV):gI (Cc E t x):=by
 unfold Cc
 (repeat' split)<;>first|exact gJ|exact lH _
omit O in
theorem ah8(k:KL)(args:List MV):gI (yV k args):=by
 unfold yV
 split
 ·rename_i s c
  cases Nat.blt c 256<;>first|exact gJ|exact lH _
 ·exact gJ
omit O in
theorem qK{o:Option (MV×MH)}{r:MR}(ho:lC o=some r):∃v h',o=some (v,h')∧r=.upd v h':=by
 unfold lC at ho;split at ho
 ·cases ho;exact⟨_,_,rfl,rfl⟩
 ·cases ho
omit O in
theorem GK{c:Call}{r:MR}(ho:sO E ev c h=some r):∃args,evs ev c.args.toList=some args∧
  ((∃v,r=.val v)∨
   (∃x y v h',c.callee=.builtin .append∧args=[x,y]∧r=.upd v h'∧Fp E c.argTypes.toList x y h=some (v,h'))∨
   (∃x y v h',c.callee=.builtin .copy∧args=[x,y]∧r=.upd v h'∧Fz E c.argTypes.toList x y h=some (v,h'))∨
   (∃x y t v h',c.callee=.builtin .delete∧args=[x,y]∧r=.upd v h'∧iU c.argTypes.toList 0=some t∧FB E t x y h=some (v,h'))∨
   (∃f g a b,c.callee=.value f∧ev f=some (.fn g a b)∧E.ext g=none∧r=.enter g (a++args++b))∨
   (∃f l,c.callee=.value f∧ev f=some (.dh l)∧r=.round l args)):=by
 unfold sO at ho
 split at ho
 ·cases ho
 ·rename_i args hargs
  refine⟨args,hargs,?_⟩
  split at ho
  ·rename_i b hb
   unfold KZ at ho
   split at ho
   ·split at ho
    ·exact .inl (ah6 _ _ _ ho)
    ·exact .inl (ah7 _ _ _ ho)
    ·cases ho
   ·rename_i x y
    split at ho
    ·obtain⟨v,h',e1,e2⟩:=qK ho
     exact .inr (.inl ⟨x,y,v,h',hb,rfl,e2,e1⟩)
    ·obtain⟨v,h',e1,e2⟩:=qK ho
     exact .inr (.inr (.inl ⟨x,y,v,h',hb,rfl,e2,e1⟩))
    ·split at ho
     ·rename_i t ht
      obtain⟨v,h',e1,e2⟩:=qK ho
      exact .inr (.inr (.inr (.inl ⟨x,y,t,v,h',hb,rfl,e2,ht,e1⟩)))
     ·cases ho
    iterate 2
     ·exact .inl (pX _ _ ho)
    ·cases ho
   ·cases ho
  ·rename_i f hf
   split at ho
   ·rename_i fv hfv
    unfold Lc at ho
    split at ho
    ·rename_i g a b
     unfold La at ho
     split at ho
     ·exact .inl (ah8 _ _ _ ho)
     ·rename_i hg
      cases ho
      exact .inr (.inr (.inr (.inr (.inl ⟨f,g,a,b,hf,hfv,hg,rfl⟩))))
    ·rename_i l
     cases ho
     exact .inr (.inr (.inr (.inr (.inr ⟨f,l,hf,hfv,rfl⟩))))
    ·cases ho
   ·cases ho
  ·cases ho
omit O in
theorem Vj{c:Call}{k:gW}{b:MB}(ho:sO E ev c h=some (.new k b)):False:=by
 obtain⟨args,-,⟨v,e⟩|⟨x,y,v,h',-,-,e,-⟩|⟨x,y,v,h',-,-,e,-⟩|⟨x,y,t,v,h',-,-,e,-⟩|⟨f,g,a,b,-,-,-,e⟩|⟨f,l,-,-,e⟩⟩:=GK ho<;>cases e
omit O in
theorem lI{o:Option MR}{k:gW}{b:MB}(hv:gI o)(ho:o=some (.new k b)):False:=by
 obtain⟨v,e⟩:=hv _ ho;cases e
omit O in
theorem mD{o:Option MR}{v:MV}{h':MH}(hv:gI o)(ho:o=some (.upd v h')):False:=by
 obtain⟨v,e⟩:=hv _ ho;cases e
omit O in
theorem CX{s d:TypeId}{x:Operand}{r:MR}(ho:xm E ev s d x h=some r):(∃v,r=.val v)∨
  (∃S D e T b,dK E s=some S∧dK E d=some D∧S.und=.string∧D.und=.slice e∧dK E e=some T∧isByte T=true∧ev x=some (.str b)∧
   r=.upd (.bQ h.nx 0 0 (dC b 0)) (h.new (.cells (ofBytes b) e 1 true)))∨
  ∃S D e' e T xv,dK E s=some S∧dK E d=some D∧S.und=.slice e'∧D.und=.slice e∧dK E e=some T∧isByte T=true∧s=d∧ev x=some xv∧Fh E h xv=some r:=by
 unfold xm at ho
 split at ho
 ·rename_i xv hx
  split at ho
  ·cases ho;exact .inl ⟨_,rfl⟩
  rename_i hu
  clear hu
  unfold KR at ho
  split at ho
  ·rename_i S D hS hD
   split at ho
   iterate 2
    ·split at ho
     ·cases ho;exact .inl ⟨_,rfl⟩
     ·cases ho
   ·rename_i e b hd
    split at ho
    ·rename_i T hs hT
     cases hb:isByte T with
     |false=>rw[hb]at ho;cases ho
     |true=>
      rw[hb]at ho
      cases ho
      exact .inr (.inl ⟨S,D,e,T,b,hS,hD,hs,hd,hT,hb,hx,rfl⟩)
    ·cases ho
   ·split at ho
    ·split at ho
     ·rename_i T hT
      cases hb:isByte T with
      |false=>rw[hb]at ho;cases ho
      |true=>
       rw[hb]at ho
       simp only[cond_true]at ho
       split at ho
       ·split at ho
        ·cases ho;exact .inl ⟨_,rfl⟩
        ·cases ho
       ·cases ho
     ·cases ho
    ·cases ho
   ·rename_i e hd _
    split at ho
    ·rename_i e' T hs hT
     cases hb:and (Nat.beq s d) (isByte T)with
     |false=>rw[hb]at ho;cases ho
     |true=>
      rw[hb]at ho
      obtain⟨b1,b2⟩:=dL hb
      exact .inr (.inr ⟨S,D,e',e,T,_,hS,hD,hs,hd,hT,b2,Nat.eq_of_beq_eq_true b1,hx,ho⟩)
    ·cases ho
   ·cases ho
  ·cases ho
 ·cases ho
omit O in
theorem CY{o:Option (gW×MB)}{k:gW}{b:MB}(ho:mi o=some (.new k b)):o=some (k,b):=by
 unfold mi at ho;split at ho<;>cases ho;rfl
theorem MF(hE:bT E P)(hev:fB σ V ev ρ)(o:Oper){k:gW}{b:MB}(ho:fD E ev o.op h=some (.new k b)){id:Nat}(hid:¬V id)(w:World) :
  ∃obj,(execOp ρ o).run P w=.ok (.value (ae (upd σ id ⟨w.heap.size,0,0⟩) (k.at id))) (w.alloc obj)∧
   iV (upd σ id ⟨w.heap.size,0,0⟩) (iw V id) id (w.alloc obj) b∧wf (upd σ id ⟨w.heap.size,0,0⟩) (iw V id) (k.at id):=by
 have CZ:iw V id id:=.inr rfl
 cases hop:o.op<;>rw[hop]at ho<;>simp only[fD]at ho<;>first|(cases ho;done)|skip
 case alloc t=>
  have ho:=CY ho
  unfold UI at ho
  split at ho
  ·rename_i T hT
   split at ho
   ·rename_i z hz
    cases ho
    obtain⟨m,m1,m2,m3,m4,-⟩:=xG (σ:=σ) (V:=V) hE hT hz
    refine⟨.cells ⟨aF σ z⟩ t,?_,Gm m3 m4 hid w,CZ⟩
    unfold execOp
    simp only[hop]
    refine gp ?_
    unfold Instr.alloc newVar
    rw[Sem.bind_ok (m1 w),m2]
    refine(Sem.bind_ok (vG t _ w)).trans ?_
    simp only[gW.at,ae,upd_same]
    rfl
   ·cases ho
  ·cases ho
 case box t x=>
  have ho:=CY ho
  unfold Ld at ho
  split at ho
  ·rename_i T v hT hx
   cases hc:ones v.cells with
   |false=>rw[hc]at ho;cases ho
   |true=>
    rw[hc]at ho
    cases ho
    obtain⟨h1,h2⟩:=hev x v hx
    refine⟨.cells ⟨aF σ v.cells⟩ t,?_,Gm (FU h1) hc hid w,CZ⟩
    unfold execOp
    simp only[hop]
    refine gp ?_
    unfold Instr.box newVar
    rw[h2,CJ]
    refine(Sem.bind_ok (vG t _ w)).trans ?_
    simp only[gW.at,ae,upd_same]
    rfl
  ·cases ho
 case buildSlice t len parts=>
  have ho:=CY ho
  unfold Le at ho
  split at ho
  ·cases ho
  ·rename_i T hT
   have hu:=(hE.ty t T hT).2
   split at ho
   ·rename_i e hd
    rw[hd]at hu
    split at ho
    ·cases ho
    ·rename_i Te hTe
     split at ho
     ·cases ho
     ·rename_i z hz
      cases hc:Nat.ble (Nat.mul len Te.info.size) 65536 with
      |false=>rw[hc]at ho;cases ho
      |true=>
       rw[hc]at ho
       simp only[cond_true]at ho
       have hc:=Nat.le_of_ble_eq_true hc
       simp only[Nat.mul_eq]at hc
       split at ho
       ·rename_i r hr
        cases ho
        obtain⟨m,m1,m2,m3,m4,m5⟩:=xG (σ:=σ) (V:=V) hE hTe hz
        rw[zG]at hr
        obtain⟨r1,r2,r3⟩:=L8 hev _ _ _ _ (Me m3) (MC m4) hr
        refine⟨.cells ⟨aF σ r⟩ e,?_,Gm r1 r2 hid w,⟨CZ,Nat.le_refl _⟩⟩
        unfold execOp
        simp only[hop]
        refine gp ?_
        unfold Instr.buildSlice
        rw[Sem.bind_ok (dD hu w)]
        simp only[]
        rw[Sem.bind_ok (sV (hE.ty e Te hTe).1 w)]
        rw[if_neg (by omega)]
        have hpm:(parts.map fun(i,x)=>(i,ρ x)).toList=parts.toList.map fun p=>(p.1,ρ p.2):=by simp
        have hpl:(fun i=>some (i*Te.info.size,Te.info.size))=FI Te.info.size:=by funext i;rfl
        by_cases h0:len*Te.info.size=0
        ·rw[if_pos h0]
         simp only[pure_bind]
         rw[Vf m5 h0,hpm,hpl,r3]
         refine(Sem.bind_ok (vG e _ w)).trans ?_
         simp only[gW.at,ae,upd_same]
         rfl
        ·rw[if_neg h0]
         rw[Sem.bind_ok (m1 w),m2]
         simp only[pure_bind]
         rw[Gn m5,hpm,hpl,r3]
         refine(Sem.bind_ok (vG e _ w)).trans ?_
         simp only[gW.at,ae,upd_same]
         rfl
       ·cases ho
   ·cases ho
 case makeMap t r=>
  have ho:=CY ho
  have fin:∀s:Sem Value,s.run P w=.ok (.map (some w.heap.size)) (w.alloc (.map #[] 0))→k=.mp→b=.map [] 0→
    (do pure (.value (←s)):Sem Next).run P w=.ok (.value (ae (upd σ id ⟨w.heap.size,0,0⟩) (k.at id))) (w.alloc (.map #[] 0))∧
    iV (upd σ id ⟨w.heap.size,0,0⟩) (iw V id) id (w.alloc (.map #[] 0)) b∧wf (upd σ id ⟨w.heap.size,0,0⟩) (iw V id) (k.at id):=by
   rintro s hs rfl rfl
   refine⟨?_,⟨?_,by simp⟩,CZ⟩
   ·rw[gp hs];simp only[gW.at,ae,upd_same]
   ·rw[upd_same];exact qJ w _
  refine⟨.map #[] 0,?_⟩
  unfold execOp
  simp only[hop]
  unfold Ll at ho
  split at ho
  ·cases ho
   exact fin _ rfl rfl rfl
  ·split at ho
   ·rename_i kk n p hx hk
    cases ho
    refine fin _ ?_ rfl rfl
    obtain⟨kt,u1,-,-⟩:=Gi hE hk
    unfold Instr.makeMap
    simp only[Option.map_some,(hev _ _ hx).2,ae]
    rw[Sem.bind_ok (dD u1 w)]
    rfl
   ·cases ho
 case makeSlice t l c=>
  have ho:=CY ho
  unfold Lm at ho
  split at ho
  ·rename_i T ln cn hT hl hcn
   have hu:=(hE.ty t T hT).2
   obtain⟨kl,e1⟩:=FX hev hl
   obtain⟨kc,e2⟩:=FX hev hcn
   split at ho
   ·rename_i e hd
    rw[hd]at hu
    split at ho
    ·rename_i Te hTe
     obtain⟨ti,-⟩:=hE.ty e Te hTe
     split at ho
     ·rename_i z hz
      cases hc:(and (Nat.ble ln cn) (and (Nat.ble cn 1048576) (Nat.ble Te.info.bytes 65536)))with
      |false=>rw[hc]at ho;cases ho
      |true=>
       rw[hc]at ho
       cases ho
       obtain⟨c1,c2⟩:=dL hc
       obtain⟨c2,c3⟩:=dL c2
       have c1:=Nat.le_of_ble_eq_true c1
       have c2:=Nat.le_of_ble_eq_true c2
       have c3:=Nat.le_of_ble_eq_true c3
       obtain⟨m,m1,m2,m3,m4,m5⟩:=xG (σ:=σ) (V:=V) hE hTe hz
       rw[zG]
       refine⟨.cells ⟨aF σ (List.replicate cn z).flatten⟩ e,?_,Gm (Me m3) (MC m4) hid w,⟨CZ,c1⟩⟩
       unfold execOp
       simp only[hop]
       refine gp ?_
       unfold Instr.makeSlice
       rw[Sem.bind_ok (dD hu w),e1,e2]
       simp only[asInt,asIntOf,pure_bind]
       rw[Sem.bind_ok (CP ti w)]
       have w1:IntKind.i64.wrap (Int.ofNat ln)=(ln:Int):=wrap_small (by omega)
       have w2:IntKind.i64.wrap (Int.ofNat cn)=(cn:Int):=wrap_small (by omega)
       have hb:Te.info.bytes*cn≤65536*1048576:=Nat.mul_le_mul c3 c2
       simp only[w1,w2]
       rw[if_neg (by
        simp only[Bool.or_eq_true,decide_eq_true_eq,not_or]
        refine⟨⟨⟨by omega,?_⟩,by omega⟩,by omega⟩
        have:((Te.info.bytes:Int)*(cn:Int))=((Te.info.bytes*cn:Nat):Int):=by simp
        rw[this]
        omega)]
       rw[Sem.bind_ok (run_askRoom (P:=P) (w:=w) _)]
       rw[Sem.bind_ok (sV ti w)]
       rw[Int.toNat_natCast]
       by_cases h0:cn*Te.info.size=0
       ·rw[if_pos h0]
        rw[Vf m5 h0]
        refine(Sem.bind_ok (vG e _ w)).trans ?_
        simp only[gW.at,ae,upd_same]
        rfl
       ·rw[if_neg h0]
        rw[Sem.bind_ok (m1 w),m2]
        rw[Gn m5]
        refine(Sem.bind_ok (vG e _ w)).trans ?_
        simp only[gW.at,ae,upd_same]
        rfl
     ·cases ho
    ·cases ho
   ·cases ho
  ·cases ho
 case call c=>exact(Vj ho).elim
 all_goals first|exact(Vg ho).elim|exact(Vh ho).elim|skip
 case pick=>exact(lI (Gp _ _ _) ho).elim
 case build=>exact(lI (Gq _ _) ho).elim
 case load=>exact(lI (CV _ _) ho).elim
 case nilCheck=>exact(lI (Gt _) ho).elim
 case binOp=>exact(lI (Gu _ _ _ _) ho).elim
 case unOp=>exact(lI (Gv _ _) ho).elim
 case convert=>
  rcases CX ho with⟨v,e⟩|⟨S,D,e,T,b,-,-,-,-,-,-,-,e⟩|⟨S,D,e1,e2,T,xv,-,-,-,-,-,-,-,-,hm⟩<;>first|cases e|(obtain⟨_,_,_,_,_,_,_,_,-,-,-,e⟩:=zJ hm;cases e)
 case makeFunc=>exact(lI (Gw _ _ _) ho).elim
 case slice=>exact(lI (Gx _ _ _ _ _) ho).elim
 case fieldAddr=>exact(lI (Gy _ _ _) ho).elim
 case field=>exact(lI (Gz _ _ _) ho).elim
 case indexAddr=>exact(lI (GG _ _ _) ho).elim
 case index=>exact(lI (GH _ _ _) ho).elim
 case lookup=>exact(lI (CW _ _ _ _) ho).elim
 case extract=>exact(lI (GI _ _) ho).elim
end ops
end Go.aI
