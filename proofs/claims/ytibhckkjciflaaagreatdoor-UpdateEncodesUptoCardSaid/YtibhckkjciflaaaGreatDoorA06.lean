/- A part of the proof. -/
import Derived.Test.YtibhckkjciflaaaGreatDoorA05
namespace Go.aI
variable [O:dw]
open Go.RowKit
def gK(G:GB)(B:Nat→Prop)(W0:World)(σ:Sg)(V:Nat→Prop)(h h':MH)(K:Sg→(Nat→Prop)→World→Prop):Prop:=
 ∃σ' V' w',dJ V σ σ'∧(∀id,V id→V' id)∧(∀id,V' id→V id∨h.nx≤id)∧h.nx≤h'.nx∧Rel G B W0 σ' V' h' w'∧K σ' V' w'
theorem gK.mono{G:GB}{B:Nat→Prop}{W0:World}{σ:Sg}{V:Nat→Prop}{h h':MH}{K K':Sg→(Nat→Prop)→World→Prop}(hs:gK G B W0 σ V h h' K)
  (hk:∀σ' V' w',dJ V σ σ'→(∀id,V id→V' id)→K σ' V' w'→K' σ' V' w'):gK G B W0 σ V h h' K':=by
 obtain⟨σ',V',w',h1,h2,h3,h4,h5,h6⟩:=hs
 exact⟨σ',V',w',h1,h2,h3,h4,h5,hk _ _ _ h1 h2 h6⟩
omit O in
theorem dJ.refl(V:Nat→Prop)(σ:Sg):dJ V σ σ:=fun _ _=>rfl
omit O in
theorem dJ.trans{V V':Nat→Prop}{σ σ' Vk:Sg}(h:dJ V σ σ')(hV:∀id,V id→V' id)(h':dJ V' σ' Vk):dJ V σ Vk:=fun id hid=>(h' id (hV id hid)).trans (h id hid)
section ops
variable {E:Env} {P:Program} {B:Nat→Prop} {W0:World} {σ:Sg} {V:Nat→Prop} {h:MH} {w:World} {ev:Ev} {ρ:Operand→Value}
theorem gK.same{h':MH}{w':World}{K:Sg→(Nat→Prop)→World→Prop}(hn:h'.nx=h.nx)(R:Rel E.G B W0 σ V h' w')(hk:K σ V w'):gK E.G B W0 σ V h h' K:=
 ⟨σ,V,w',dJ.refl _ _,fun _ hx=>hx,fun _ hx=>.inl hx,Nat.le_of_eq hn.symm,R,hk⟩
theorem gK.new(R:Rel E.G B W0 σ V h w)(hW:∀k,B k→k<W0.heap.size){b:MB}{o:Obj}(off cap:Nat){K:Sg→(Nat→Prop)→World→Prop}
  (hb:iV (upd σ h.nx ⟨w.heap.size,off,cap⟩) (iw V h.nx) h.nx (w.alloc o) b) (hk:K (upd σ h.nx ⟨w.heap.size,off,cap⟩) (iw V h.nx) (w.alloc o)):gK E.G B W0 σ V h (h.new b) K:=
 ⟨_,_,_,oz _ _ (fun hv=>Nat.lt_irrefl _ (R.vx _ hv)),fun _ hx=>.inl hx,fun _ hx=>hx.imp (fun x=>x) (fun e=>Nat.le_of_eq e.symm),Nat.le_succ _,R.alloc (R.size hW) off cap hb,hk⟩
abbrev C9(P:Program)(ρ:Operand→Value)(o:Oper)(w:World)(v:MV):Sg→(Nat→Prop)→World→Prop:=
 fun σ' V' w'=>wf σ' V' v∧((execOp ρ o).run P w=.ok (.value (ae σ' v)) w'∨(v=jL∧(execOp ρ o).run P w=.ok .skip w'))
omit O in
theorem xJ:wf σ V jL:=by simp only[jL,wf,wfs]
theorem ah9(hE:bT E P)(R:Rel E.G B W0 σ V h w)(hev:fB σ V ev ρ){o:Oper}{t:TypeId}{x y:Operand}(hop:o.op=.store t x y){v:MV}{h':MH}
  (ho:FK E ev t x y h=some (v,h')):gK E.G B W0 σ V h h' (C9 P ρ o w v):=by
 unfold FK at ho
 split at ho
 ·rename_i T id off u hT hx hy
  obtain⟨x1,x2⟩:=hev x _ hx
  obtain⟨y1,y2⟩:=hev y _ hy
  simp only[wf]at x1
  cases hc:Nat.beq (dC u.cells 0) T.info.size with
  |false=>rw[hc]at ho;cases ho
  |true=>
   rw[hc]at ho
   simp only[cond_true]at ho
   have hc:=Nat.eq_of_beq_eq_true hc
   rw[jl]at hc
   simp only[Nat.add_zero]at hc
   split at ho
   ·rename_i h1 hw
    cases ho
    obtain⟨w',r1,r2,r3⟩:=Md (P:=P) R x1 (FU y1) hw
    refine gK.same r3 r1 ⟨xJ,.inr ⟨rfl,?_⟩⟩
    unfold execOp
    simp only[hop]
    refine L9 ?_
    unfold Instr.storeAt
    rw[x2,y2]
    simp only[ae,Instr.sureAddr,pure_bind]
    unfold storeVar
    rw[Sem.bind_ok (sV (hE.ty t T hT).1 w)]
    have hsz:(ae σ u).cells.size=T.info.size:=by rw[CJ,dS];simp[hc]
    rw[if_neg (by simp[hsz]),CJ]
    exact r2
   ·cases ho
 ·cases ho
omit O in
theorem aia(w:World)(c:Array Value)(e:TypeId)(n:Nat):(w.alloc (.cells c e)).freeze ⟨w.heap.size,n,none⟩ 1=w.alloc (.cells c e (n,n+1)):=by
 unfold World.freeze
 rw[if_neg (by omega)]
 show({w with heap:=_}:World)={w with heap:=_}
 congr 1
 show(w.heap.push (.cells c e)).modify w.heap.size _=w.heap.push _
 apply Array.ext_getElem?
 intro i
 rw[Array.getElem?_modify]
 by_cases hi:w.heap.size=i
 ·subst hi
  rw[if_pos rfl]
  simp
 ·rw[if_neg hi]
  rcases Nat.lt_or_gt_of_ne hi with hlt|hgt
  ·rw[Array.getElem?_eq_none (by simp;omega),Array.getElem?_eq_none (by simp;omega)]
  ·rw[Array.getElem?_push_lt hgt,Array.getElem?_push_lt hgt]
omit O in
theorem aib{w:World}{b:Nat}{c:Array Value}{t:TypeId}{fz:Nat×Nat}(h:w.heap[b]?=some (.cells c t fz))(hf:fz.1=fz.2∨c.size≤fz.1) :
  ∃fz':Nat×Nat,w.freeze ⟨b,c.size,none⟩ 1=w.putObj b (.cells c t fz')∧c.size≤fz'.1:=by
 obtain⟨lo,hi⟩:=fz
 refine⟨if lo == hi then(c.size,c.size+1)else(min lo c.size,max hi (c.size+1)),?_,?_⟩
 ·unfold World.freeze World.putObj
  rw[if_neg (by decide)]
  congr 1
  apply Array.ext_getElem?
  intro i
  rw[Array.getElem?_modify]
  by_cases hi:b=i
  ·subst hi
   have hlt:=(Array.getElem?_eq_some_iff.1 h).1
   rw[if_pos rfl,h]
   simp[hlt]
  ·rw[if_neg hi,Array.getElem?_setIfInBounds_ne hi]
 ·dsimp only at hf
  split
  ·exact Nat.le_refl _
  ·rename_i hne
   have:lo≠hi:=by simpa using hne
   show c.size≤min lo c.size
   omega
theorem aic(hE:bT E P)(R:Rel E.G B W0 σ V h w)(hW:∀k,B k→k<W0.heap.size)(hev:fB σ V ev ρ){o:Oper}{s d:TypeId}{x:Operand}(hop:o.op=.convert s d x){v:MV}{h':MH}
  (ho:xm E ev s d x h=some (.upd v h')):gK E.G B W0 σ V h h' (C9 P ρ o w v):=by
 rcases CX ho with⟨u,e⟩|⟨S,D,e,T,b,hS,hD,hs,hd,hT,hb,hx,hr⟩|⟨S,D,e',e,T,xv,hS,hD,hs,hd,hT,hb,rfl,hx,hm⟩
 rotate_right
 ·obtain⟨id,off,len,cap,cs,t,es,op,rfl,hg,hro,e⟩:=zJ hm
  cases e
  obtain⟨x1,x2⟩:=hev x _ hx
  simp only[wf]at x1
  have uS:=(hE.ty s S hS).2
  have ue:=(hE.ty e T hT).2
  have uD:=(hE.ty s D hD).2
  rw[LX hb]at ue
  rw[hs]at uS
  rw[hd]at uD
  obtain⟨c,fz,k1,k2,k3,k4,k5,k6⟩:=R.blk id _ x1.1 hg
  obtain⟨fz',hf1,hf2⟩:∃fz':Nat×Nat,w.freeze ⟨(σ id).blk,c.size,none⟩ 1=w.putObj (σ id).blk (.cells c t fz')∧c.size≤fz'.1:=aib k1 k6
  have hsz:(σ id).blk<w.heap.size:=(Array.getElem?_eq_some_iff.1 k1).1
  have hblk:iV σ V id (w.putObj (σ id).blk (.cells c t fz')) (.cells cs t es op):=by
   refine⟨c,fz',?_,k2,k3,k4,k5,.inr hf2⟩
   simp[World.putObj,hsz]
  refine gK.same rfl (R.write x1.1 hg rfl hro _ hblk) ⟨by simp only[wf];exact x1,.inl ?_⟩
  unfold execOp
  simp only[hop]
  refine gp ?_
  rw[x2]
  unfold convert
  rw[Sem.bind_ok (dD uS w),Sem.bind_ok (dD uD w)]
  simp only[ae]
  have hms:(markStringish ⟨(σ id).blk,(σ id).off+off,none⟩).run P w=.ok () (w.putObj (σ id).blk (.cells c t fz')):=by
   unfold markStringish
   rw[Sem.bind_ok (run_shape (P:=P) (w:=w) _)]
   have:w.shape? (σ id).blk=some (t,c.size):=by
    unfold World.shape?;rw[k1]
   rw[this]
   simp only[run_freeze]
   rw[hf1]
  rw[Sem.bind_ok (dD ue w)]
  rw[beq_self_eq_true]
  simp only[]
  rw[Sem.bind_ok hms]
  rfl
 ·cases e
 ·cases hr
  obtain⟨x1,x2⟩:=hev x _ hx
  simp only[wf]at x1
  have uS:=(hE.ty s S hS).2
  have uD:=(hE.ty d D hD).2
  have ue:=(hE.ty e T hT).2
  rw[LX hb]at ue
  rw[hs]at uS
  rw[hd]at uD
  have kE:¬V h.nx:=fun hv=>Nat.lt_irrefl _ (R.vx _ hv)
  obtain⟨cap,hcap,wd,hwd,hch⟩:∃cap,b.length≤cap∧∃wd,(wd=w∨wd=w.drew)∧(choose (.appendCap (bytesV b).size 0 e)).run P w=.ok cap wd:=by
   refine⟨(bytesV b).size+w.tape w.drawn (.appendCap (bytesV b).size 0 e) % (2 ^ 63-(bytesV b).size),by rw[qI];omega,w.drew,.inr rfl,?_⟩
   rw[run_choose_drew]
   simp[Question.forced,Question.cut]
  have hRd:Rel E.G B W0 σ V h wd:=by rcases hwd with rfl|rfl;exact R;exact R.drew
  let cells:List Value:=b.map (fun(n:Nat)=>Value.int .u8 (n:Int))++List.replicate (cap-b.length) (.int .u8 0)
  have hcl:cells.length=cap:=by simp[cells];omega
  let obj:Obj:=.cells ⟨cells⟩ e (cap,cap+1)
  have hblk:iV (upd σ h.nx ⟨wd.heap.size,0,cap⟩) (iw V h.nx) h.nx (wd.alloc obj) (.cells (ofBytes b) e 1 true):=by
   have hob:∀l:List Nat,ofBytes l=l.map (fun n=>MV.int .u8 (.ofNat n)):=by
    intro l;induction l with
    |nil=>rfl
    |cons a l ih=>exact congrArg (MV.int .u8 (.ofNat a)::·) ih
   refine⟨⟨cells⟩,(cap,cap+1),by rw[upd_same];exact qJ wd _,?_,?_,?_,?_,?_⟩
   ·rw[hob,fP];intro u hu;obtain⟨n,-,rfl⟩:=List.mem_map.1 hu;trivial
   ·rw[hob,iq];intro u hu;obtain⟨n,-,rfl⟩:=List.mem_map.1 hu;rfl
   ·intro i u hi
    rw[hob,List.getElem?_map]at hi
    rw[upd_same]
    cases hbi:b[i]? with
    |none=>rw[hbi]at hi;cases hi
    |some n=>
     rw[hbi]at hi;cases hi
     have hlt:i<b.length:=(List.getElem?_eq_some_iff.1 hbi).1
     simp only[Nat.zero_add,List.getElem?_toArray,cells]
     rw[List.getElem?_append_left (by simpa using hlt),List.getElem?_map,hbi]
     rfl
   ·intro _;rw[upd_same];simp[hcl]
   ·exact .inr (by simp[hcl])
  refine gK.new hRd hW 0 cap hblk ⟨?_,.inl ?_⟩
  ·simp only[wf,upd_same,jl]
   exact⟨.inr rfl,by omega⟩
  ·unfold execOp
   simp only[hop]
   refine gp ?_
   rw[x2]
   unfold convert
   rw[Sem.bind_ok (dD uS w),Sem.bind_ok (dD uD w)]
   simp only[ae]
   rw[Sem.bind_ok (dD ue w)]
   simp only[]
   unfold Conv.stringToBytes
   rw[Sem.bind_ok hch]
   have hel:((bytesV b).data.map fun x=>Value.int .u8 x.toNat)++Array.replicate (cap-(bytesV b).size) (.int .u8 0)=⟨cells⟩:=by
    rw[qI,←Array.toList_inj]
    simp only[bytesV,Array.toList_append,Array.toList_map,List.map_map,Array.toList_replicate,cells]
    congr 1
    apply List.map_congr_left
    intro n hn
    have:=x1 n hn
    simp
    omega
   dsimp only
   rw[hel]
   refine(Sem.bind_ok (vG e _ wd)).trans ?_
   have hms:(markStringish ⟨wd.heap.size,0,none⟩).run P (wd.alloc (.cells ⟨cells⟩ e))=.ok () (wd.alloc obj):=by
    unfold markStringish
    rw[Sem.bind_ok (run_shape (P:=P) (w:=wd.alloc (.cells ⟨cells⟩ e)) _)]
    have:(wd.alloc (.cells ⟨cells⟩ e)).shape? wd.heap.size=some (e,cap):=by
     unfold World.shape?;rw[qJ];simp[hcl]
    rw[this]
    simp only[run_freeze]
    rw[aia]
   rw[Sem.bind_ok hms]
   simp only[Sem.run_pure,upd_same,qI,jl,Nat.add_zero,Nat.sub_zero]
theorem aie(hE:bT E P)(R:Rel E.G B W0 σ V h w)(hW:∀k,B k→k<W0.heap.size)(hev:fB σ V ev ρ){o:Oper}{t:TypeId}{x:Operand}(hop:o.op=.range t x){v:MV}{h':MH}
  (ho:FM E ev t x h=some (v,h')):gK E.G B W0 σ V h h' (C9 P ρ o w v):=by
 unfold FM at ho
 split at ho
 ·rename_i xv hx
  obtain⟨x1,x2⟩:=hev x _ hx
  unfold UH at ho
  split at ho
  ·rename_i T hT
   have hu:=(hE.ty t T hT).2
   split at ho
   ·rename_i kt el hd
    cases ho
    rw[hd]at hu
    refine gK.new (o:=.mapIter none 0 #[] 0) R hW 0 0 ⟨?_,by rw[upd_same],fun i hi=>by cases hi⟩ ⟨.inr rfl,.inl ?_⟩
    ·rw[upd_same];exact qJ w _
    ·unfold execOp
     simp only[hop]
     refine gp ?_
     rw[x2]
     unfold Instr.range
     simp only[ae,upd_same]
     rw[Sem.bind_ok (dD hu w)]
     rfl
   ·rename_i kt el id hd
    rw[hd]at hu
    simp only[wf]at x1
    split at ho
    ·rename_i es c hg
     cases ho
     obtain⟨b1,b2⟩:=R.blk id _ x1 hg
     have hne:id≠h.nx:=fun e=>Nat.lt_irrefl _ (e▸R.vx id x1)
     refine gK.new (o:=.mapIter (some (σ id).blk) c #[] c) R hW 0 0 ⟨?_,by rw[upd_same],fun i hi=>by cases hi;exact .inl x1⟩ ⟨.inr rfl,.inl ?_⟩
     ·rw[upd_same]
      refine(qJ w _).trans ?_
      simp only[Option.map_some,upd_ne σ _ hne]
     ·unfold execOp
      simp only[hop]
      refine gp ?_
      rw[x2]
      unfold Instr.range
      simp only[ae,upd_same]
      rw[Sem.bind_ok (dD hu w)]
      simp only[]
      rw[Sem.bind_ok (sW b1)]
      rfl
    ·cases ho
   ·cases ho
  ·cases ho
 ·cases ho
omit O in
theorem MG{r:Nat}{m:Option Nat}{s c:Nat}{seen:Array Nat}(hb:w.heap[r]?=some (.mapIter m s seen c)):(getObj r).run P w=.ok (.mapIter m s seen c) w:=by
 simp[getObj,Sem.run,hb]
omit O in
theorem aif{r:Nat}{m:Option Nat}{s c:Nat}{seen:Array Nat}(o:Obj)(hb:w.heap[r]?=some (.mapIter m s seen c)):(setObj r o).run P w=.ok () (w.putObj r o):=by
 simp[setObj,Sem.run,hb,World.putObj]
omit O in
theorem GL{r:Nat}{es:Array MapEntry}{c:Nat}(o:Obj)(hb:w.heap[r]?=some (.map es c)):(setObj r o).run P w=.ok () (w.putObj r o):=by
 simp[setObj,Sem.run,hb,World.putObj]
omit O in
theorem aih(n:Nat)(l:List Nat):FC n l=!(l.contains n):=by
 induction l with
 |nil=>rfl
 |cons a l ih=>
  show(Bool.rec (FC n l) false (Nat.beq n a):Bool)=_
  cases hb:Nat.beq n a with
  |true=>have:=Nat.eq_of_beq_eq_true hb;subst this;simp
  |false=>
   have hne:n≠a:=fun e=>by subst e;rw[Nat.beq_refl]at hb;cases hb
   simp[ih,hne]
omit O in
theorem Vl(seen:List Nat)(l:List ME):leftOf seen l=l.filter fun e=>!(seen.contains e.born):=by
 induction l with
 |nil=>rfl
 |cons e l ih=>
  show(Bool.rec (leftOf seen l) (e::leftOf seen l) (FC e.born seen):List ME)=_
  rw[aih,ih,List.filter_cons]
  cases (!(seen.contains e.born))<;>rfl
omit O in
theorem aii:((if(#[]:Array MapEntry).isEmpty=true then #[none]else #[])++Array.map some ((#[]:Array MapEntry)++#[]):Array (Option MapEntry))=#[none]:=by simp
omit O in
theorem aij(x:MapEntry):((if(#[x]:Array MapEntry).isEmpty=true then #[none]else #[])++Array.map some ((#[x]:Array MapEntry)++#[]):Array (Option MapEntry))=#[some x]:=by simp
theorem aik(R:Rel E.G B W0 σ V h w)(hev:fB σ V ev ρ){o:Oper}{it:Operand}{s:Bool}(hop:o.op=.next it s){v:MV}{h':MH}
  (ho:FN E ev it s h=some (v,h')):gK E.G B W0 σ V h h' (C9 P ρ o w v):=by
 unfold FN at ho
 split at ho
 ·rename_i iv hi
  obtain⟨x1,x2⟩:=hev it _ hi
  unfold UF at ho
  split at ho
  ·rename_i r
   simp only[wf]at x1
   cases hc:(or s (Nat.blt r E.G.ro))with
   |true=>rw[hc]at ho;cases ho
   |false=>
    rw[hc]at ho
    simp only[cond_false]at ho
    simp only[Bool.or_eq_false_iff]at hc
    obtain⟨hs,hG⟩:=hc
    subst hs
    have hG:E.G.ro≤r:=by
     rcases Nat.lt_or_ge r E.G.ro with hlt|hge
     ·rw[CS hlt]at hG;cases hG
     ·exact hge
    split at ho
    ·rename_i since seen st hg
     cases ho
     obtain⟨b1,b2,-⟩:=R.blk r _ x1 hg
     refine gK.same rfl R ⟨by simp only[wf,wfs];exact⟨trivial,trivial⟩,.inl ?_⟩
     unfold execOp
     simp only[hop]
     refine gp ?_
     rw[x2]
     unfold Instr.next
     simp only[ae,b2]
     rw[Sem.bind_ok (MG b1)]
     rfl
    ·rename_i m since seen last hg
     split at ho
     ·rename_i es clock hm
      obtain⟨b1,b2,b3⟩:=R.blk r _ x1 hg
      simp only[Option.map_some]at b1
      have Vm:=b3 m rfl
      obtain⟨m1,m2⟩:=R.blk m _ Vm hm
      unfold UE at ho
      cases hq:(and (not seen.isEmpty) (and (not es.isEmpty) (es.all fun e=>Nat.ble last e.born)))with
      |true=>rw[hq]at ho;cases ho
      |false=>
       rw[hq]at ho
       simp only[cond_false]at ho
       have hfil:(((⟨es.map (eG σ)⟩:Array MapEntry).filter fun e=>!(⟨seen⟩:Array Nat).contains e.born))=⟨(leftOf seen es).map (eG σ)⟩:=by
        rw[Vl,←Array.toList_inj]
        simp only[Array.toList_filter,List.filter_map]
        congr 1
        apply List.filter_congr
        intro e _
        rw[Bool.eq_iff_iff]
        simp[eG]
        exact decide_eq_false_iff_not
       have hq':((!(⟨seen⟩:Array Nat).isEmpty&&!(⟨es.map (eG σ)⟩:Array MapEntry).isEmpty&&(⟨es.map (eG σ)⟩:Array MapEntry).all fun e=>decide (e.born≥last))=true)↔False:=by
        rw[iff_false,Bool.not_eq_true,←hq]
        rw[Bool.and_assoc]
        congr 1
        ·simp
        ·congr 1
         ·simp
         ·rw[←Array.all_toList]
          simp only[List.all_map]
          congr 1
          funext e
          simp only[Function.comp,eG]
          rw[Bool.eq_iff_iff]
          exact⟨fun h=>Nat.ble_eq_true_of_le (of_decide_eq_true h),fun h=>decide_eq_true (Nat.le_of_ble_eq_true h)⟩
       split at ho
       ·rename_i hl
        cases ho
        refine gK.same rfl R ⟨by simp only[wf,wfs];exact⟨trivial,trivial⟩,.inl ?_⟩
        unfold execOp
        simp only[hop]
        refine gp ?_
        rw[x2]
        unfold Instr.next
        simp only[ae,b2]
        rw[Sem.bind_ok (MG b1)]
        dsimp only
        rw[Sem.bind_ok (sW m1)]
        dsimp only
        rw[if_neg (fun h=>hq'.1 h),hfil,hl]
        have hch:(choose (.mapNext 1)).run P w=.ok 0 w:=rfl
        have f0:∀p:MapEntry→Bool,Array.filter p ⟨([]:List ME).map (eG σ)⟩=#[]:=fun p=>by simp
        rw[f0,f0,aii]
        refine(Sem.bind_ok (a:=0) (w':=w) hch).trans ?_
        rfl
       ·rename_i e hl
        cases hbs:Nat.blt e.born since with
        |false=>rw[hbs]at ho;cases ho
        |true=>
         rw[hbs]at ho
         cases ho
         have hbs:=jf hbs
         have he:e∈es:=by
          have:e∈leftOf seen es:=by rw[hl];simp
          rw[Vl]at this
          exact(List.mem_filter.1 this).1
         have hwe:=m2 e he
         obtain⟨g1,g2⟩:Rel E.G B W0 σ V (h.set r (.iter (some m) since (seen++[e.born]) clock)) (w.putObj (σ r).blk (.mapIter (some (σ m).blk) since ((⟨seen⟩:Array Nat).push e.born) clock))∧True:=by
          refine⟨R.write x1 hg rfl hG _ ⟨?_,b2,fun i hi=>by cases hi;exact Vm⟩,trivial⟩
          rw[World.putObj_heap_same (R.lt x1 hg rfl)]
          simp
         refine gK.same rfl g1 ⟨by simp only[wf,wfs];exact⟨trivial,hwe.1,hwe.2,trivial⟩,.inl ?_⟩
         unfold execOp
         simp only[hop]
         refine gp ?_
         rw[x2]
         unfold Instr.next
         simp only[ae,b2]
         rw[Sem.bind_ok (MG b1)]
         dsimp only
         rw[Sem.bind_ok (sW m1)]
         dsimp only
         rw[if_neg (fun h=>hq'.1 h),hfil,hl]
         have f1:Array.filter (fun x:MapEntry=>decide (x.born<since)) ⟨[e].map (eG σ)⟩=#[eG σ e]:=by
          simp[eG,hbs]
         have f2:Array.filter (fun x:MapEntry=>decide (x.born≥since)) ⟨[e].map (eG σ)⟩=#[]:=by
          simp[eG];exact hbs
         rw[f1,f2,aij]
         have hch:(choose (.mapNext 1)).run P w=.ok 0 w:=rfl
         refine(Sem.bind_ok (a:=0) (w':=w) hch).trans ?_
         ·show(do setObj (σ r).blk (Obj.mapIter (some (σ m).blk) since ((⟨seen⟩:Array Nat).push (eG σ e).born) clock);pure (Value.tuple #[Value.bool true,(eG σ e).key,(eG σ e).val]):Sem Value).run P w=_
          rw[Sem.bind_ok (aif _ b1)]
          rfl
       ·cases ho
     ·cases ho
    ·cases ho
  ·cases ho
 ·cases ho
end ops
end Go.aI
namespace Go.aI
variable [O:dw]
open Go.RowKit
omit O in
theorem ail{α β:Type}(f:α→β):∀(l:List α) (n:Nat),(l.eraseIdx n).map f=(l.map f).eraseIdx n:=by
 intro l
 induction l with
 |nil=>intro n;rfl
 |cons a l ih=>intro n;cases n with
  |zero=>rfl
  |succ n=>simp[ih]
section ops
variable {E:Env} {P:Program} {B:Nat→Prop} {W0:World} {σ:Sg} {V:Nat→Prop} {h:MH} {w:World} {ev:Ev} {ρ:Operand→Value}
omit O in
theorem aim{K:TypeDesc}{x y:MV}(hK:dM K=true)(he:mg K x y=some true):x=y:=by
 unfold mg at he
 cases K<;>simp only[dM,Bool.false_eq_true]at hK<;>simp only at he
 case bool=>
  split at he
  ·simp only[Option.some.injEq,beq_iff_eq]at he;rw[he]
  ·cases he
 case int k0=>
  split at he
  ·rename_i k a k' b'
   by_cases hk:k=k'
   ·subst hk
    simp only[decide_true,cond_true,Option.some.injEq,decide_eq_true_eq]at he
    rw[he]
   ·simp[hk]at he
  ·cases he
 case string=>
  split at he
  ·rename_i a b'
   simp only[Option.some.injEq,FY,decide_eq_true_eq]at he
   rw[he]
  ·cases he
omit O in
theorem ain{K:TypeDesc}{k:MV}(hK:dM K=true):∀(l:List ME) (i j:Nat) (e:ME),oQ K k l i=some (some (j,e))→e.key=k:=by
 intro l
 induction l with
 |nil=>
   intro i j e h;have e':oQ K k [] i=some none:=rfl
   rw[e']at h;cases h
 |cons x l ih=>
  intro i j e h
  rw[LY]at h
  split at h
  ·rename_i hq;cases h;exact(aim hK hq).symm
  ·exact ih _ _ _ h
  ·cases h
theorem aio{kt:TypeDesc}{k:MV}(hk:∃y,mg kt k y=some true∧dM kt=true)(w:World):(Instr.keyThatStays (ae σ k) (ae σ k)).run P w=.ok (ae σ k) w:=by
 obtain⟨y,he,hK⟩:=hk
 have hs:Instr.sameBits 10000 (ae σ k) (ae σ k)=true:=by
  unfold mg at he
  cases kt<;>simp only[dM,Bool.false_eq_true]at hK<;>simp only at he
  case bool=>split at he<;>first|(cases he;done)|simp[ae,Instr.sameBits]
  case int=>split at he<;>first|(cases he;done)|simp[ae,Instr.sameBits]
  case string=>
   split at he
   ·simp only[ae,Instr.sameBits];rw[LU];simp
   ·cases he
 unfold Instr.keyThatStays
 simp[hs]
omit O in
theorem aip{K:TypeDesc}{k:MV}:∀(l:List ME) (i j:Nat) (e:ME),oQ K k l i=some (some (j,e))→mg K k e.key=some true:=by
 intro l
 induction l with
 |nil=>
   intro i j e h;have e':oQ K k [] i=some none:=rfl
   rw[e']at h;cases h
 |cons x l ih=>
  intro i j e h
  rw[LY]at h
  split at h
  ·rename_i hq;cases h;exact hq
  ·exact ih _ _ _ h
  ·cases h
theorem Vo(hE:bT E P)(R:Rel E.G B W0 σ V h w)(hev:fB σ V ev ρ){t:TypeId}{m k x:Operand}{v:MV}{h':MH}
  (ho:zy E ev t m k x h=some (v,h')):∃w',Rel E.G B W0 σ V h' w'∧h'.nx=h.nx∧v=jL∧(Instr.mapUpdate t (ρ m) (ρ k) (ρ x)).run P w=.ok () w':=by
 unfold zy at ho
 split at ho
 ·rename_i mv kv xv hm hk hx
  obtain⟨m1,m2⟩:=hev m _ hm
  obtain⟨k1,k2⟩:=hev k _ hk
  obtain⟨x1,x2⟩:=hev x _ hx
  unfold UD at ho
  split at ho
  ·rename_i K el id hkd
   obtain⟨kt,u1,u2,hK⟩:=Gi hE hkd
   simp only[wf]at m1
   split at ho
   ·rename_i es c hg
    obtain⟨b1,b2⟩:=R.blk id _ m1 hg
    cases hG:Nat.ble E.G.ro id with
    |false=>rw[hG]at ho;cases ho
    |true=>
     rw[hG]at ho
     simp only[cond_true]at ho
     have hG:=Nat.le_of_ble_eq_true hG
     rw[m2,k2,x2]
     unfold Instr.mapUpdate
     rw[Sem.bind_ok (dD u1 w)]
     simp only[ae]
     rw[Sem.bind_ok (sW b1)]
     dsimp only
     split at ho
     ·rename_i i e hf
      cases ho
      have hfk:=zL (P:=P) u2 hK k1 b2 hf w
      obtain⟨-,h4⟩:=Gh hK k1 es 0 _ b2 hf
      obtain⟨-,h5⟩:=h4 _ _ rfl
      simp only[Nat.sub_zero]at h5
      have E8:=ain hK _ _ _ _ hf
      have hlt:i<es.length:=(List.getElem?_eq_some_iff.1 h5).1
      refine⟨w.putObj (σ id).blk (.map ⟨(KN es i {e with key:=kv,val:=xv}).map (eG σ)⟩ c),R.write m1 hg rfl hG _ ⟨?_,?_⟩,rfl,rfl,?_⟩
      ·rw[World.putObj_heap_same (R.lt m1 hg rfl)]
      ·intro y hy
       rw[UR]at hy
       rcases List.mem_or_eq_of_mem_set hy with hy|rfl
       ·exact b2 y hy
       ·exact⟨k1,x1⟩
      ·refine(Sem.bind_ok (zK u2 hK _ w)).trans ?_
       refine(Sem.bind_ok hfk).trans ?_
       dsimp only[Option.map_some]
       have hold:(((⟨es.map (eG σ)⟩:Array MapEntry)[i]?).map (·.key)).getD (ae σ kv)=ae σ kv:=by
        simp[h5,eG,E8]
       rw[hold,Sem.bind_ok (aio ⟨_,aip _ _ _ _ hf,hK⟩ w)]
       rw[GL _ b1]
       congr 3
       rw[UR,←Array.toList_inj]
       simp only[Array.toList_modify,List.map_set]
       apply List.ext_getElem?
       intro j
       rw[List.getElem?_modify,List.getElem?_set]
       by_cases hj:i=j
       ·subst hj
        rw[List.getElem?_eq_getElem hlt]at h5
        have h5:=Option.some.inj h5
        simp[hlt,eG,h5]
       ·simp[hj]
     ·rename_i hf
      cases ho
      have hfk:=zL (P:=P) u2 hK k1 b2 hf w
      refine⟨w.putObj (σ id).blk (.map ⟨(es++[(⟨kv,xv,c⟩:ME)]).map (eG σ)⟩ (c+1)),R.write m1 hg rfl hG _ ⟨?_,?_⟩,rfl,rfl,?_⟩
      ·rw[World.putObj_heap_same (R.lt m1 hg rfl)]
      ·intro y hy
       rcases List.mem_append.1 hy with hy|hy
       ·exact b2 y hy
       ·simp only[List.mem_singleton]at hy;subst hy;exact⟨k1,x1⟩
      ·refine(Sem.bind_ok (zK u2 hK _ w)).trans ?_
       refine(Sem.bind_ok hfk).trans ?_
       dsimp only[Option.map_none]
       rw[GL _ b1]
       congr 3
       rw[←Array.toList_inj]
       simp[eG]
     ·cases ho
   ·cases ho
  ·cases ho
 ·cases ho
theorem aiq(hE:bT E P)(R:Rel E.G B W0 σ V h w){t:TypeId}{ats:Array TypeId}{ty:TypeId}{m k:MV}(h0:ats[0]?=some t)(m1:wf σ V m)(k1:wf σ V k){v:MV}{h':MH}
  (ho:FB E t m k h=some (v,h')):∃w',Rel E.G B W0 σ V h' w'∧h'.nx=h.nx∧v=jL∧(Builtin.delete_ ats ty ⟨[ae σ m,ae σ k]⟩).run P w=.ok (.tuple #[]) w':=by
 unfold FB at ho
 split at ho
 ·rename_i K el id hkd
  obtain⟨kt,u1,u2,hK⟩:=Gi hE hkd
  simp only[wf]at m1
  split at ho
  ·rename_i es c hg
   obtain⟨b1,b2⟩:=R.blk id _ m1 hg
   cases hG:Nat.ble E.G.ro id with
   |false=>rw[hG]at ho;cases ho
   |true=>
    rw[hG]at ho
    simp only[cond_true]at ho
    have hG:=Nat.le_of_ble_eq_true hG
    unfold Builtin.delete_
    simp only[h0]
    rw[show((⟨[ae σ (.mp id),ae σ k]⟩:Array Value)[0]?:Option Value)=some (ae σ (.mp id)) from rfl,show((⟨[ae σ (.mp id),ae σ k]⟩:Array Value)[1]?:Option Value)=some (ae σ k) from rfl]
    dsimp only
    rw[Sem.bind_ok (dD u1 w)]
    simp only[ae]
    rw[Sem.bind_ok (sW b1)]
    dsimp only
    split at ho
    ·rename_i i e hf
     cases ho
     have hfk:=zL (P:=P) u2 hK k1 b2 hf w
     refine⟨w.putObj (σ id).blk (.map ⟨(KO es i).map (eG σ)⟩ c),R.write m1 hg rfl hG _ ⟨?_,?_⟩,rfl,rfl,?_⟩
     ·rw[World.putObj_heap_same (R.lt m1 hg rfl)]
     ·intro y hy
      rw[UT]at hy
      exact b2 y (List.mem_of_mem_eraseIdx hy)
     ·refine(Sem.bind_ok (zK u2 hK _ w)).trans ?_
      refine(Sem.bind_ok hfk).trans ?_
      dsimp only[Option.map_some]
      rw[Sem.bind_ok (GL _ b1)]
      simp only[Sem.run_pure]
      congr 3
      rw[UT,←Array.toList_inj]
      obtain⟨-,h4⟩:=Gh hK k1 es 0 _ b2 hf
      obtain⟨-,h5⟩:=h4 _ _ rfl
      simp only[Nat.sub_zero]at h5
      have hlt:i<es.length:=(List.getElem?_eq_some_iff.1 h5).1
      unfold Array.eraseIdxIfInBounds
      rw[dif_pos (by simpa using hlt)]
      simp[ail]
    ·rename_i hf
     cases ho
     have hfk:=zL (P:=P) u2 hK k1 b2 hf w
     refine⟨w,R,rfl,rfl,?_⟩
     refine(Sem.bind_ok (zK u2 hK _ w)).trans ?_
     refine(Sem.bind_ok hfk).trans ?_
     dsimp only[Option.map_none]
     rw[Sem.bind_ok (GL _ b1),Gl b1]
     rfl
    ·cases ho
  ·cases ho
 ·cases ho
omit O in
theorem air(a b:Nat):Fq a b=Nat.min a b:=by
 unfold Fq
 cases hb:Nat.ble a b with
 |true=>have:=Nat.le_of_ble_eq_true hb;simp only[cond_true];exact(Nat.min_eq_left this).symm
 |false=>
  have:¬a≤b:=fun hle=>by rw[Nat.ble_eq_true_of_le hle]at hb;cases hb
  simp only[cond_false];exact(Nat.min_eq_right (by omega)).symm
omit O in
theorem MI(l:List Nat):ofBytes l=l.map (fun n=>MV.int .u8 (.ofNat n)):=by
 induction l with
 |nil=>rfl
 |cons a l ih=>exact congrArg (MV.int .u8 (.ofNat a)::·) ih
omit O in
theorem ais(l:List Nat):wfs σ V (ofBytes l)∧ones (ofBytes l)=true:=by
 rw[MI,fP,iq]
 refine⟨fun u hu=>?_,fun u hu=>?_⟩
 ·obtain⟨n,-,rfl⟩:=List.mem_map.1 hu;trivial
 ·obtain⟨n,-,rfl⟩:=List.mem_map.1 hu;rfl
theorem ait{l:List Nat}(hl:∀x∈l,x<256):aF σ (ofBytes l)=(l.map UInt8.ofNat).map (fun x=>Value.int .u8 (x.toNat:Int)):=by
 rw[MI,dS,List.map_map,List.map_map]
 apply List.map_congr_left
 intro n hn
 have:=hl n hn
 simp[ae]
 omega
theorem Vp{x:MV}{n:Nat}(hx:nZ h x=some n)(hm:∀id,x≠.mp id)(hn:x≠.bV):(Builtin.lenOf (ae σ x)).run P w=.ok n w:=by
 cases x<;>simp only[nZ]at hx<;>first|(cases hx;done)|exact absurd rfl (hm _)|exact absurd rfl hn|skip
 ·cases hx;simp only[ae,Builtin.lenOf,qI,jl];rfl
 all_goals (cases hx;rfl)
theorem MJ(R:Rel E.G B W0 σ V h w){x:MV}{es n:Nat}{c:List MV}(x1:wf σ V x)(hc:uT es n h x=some c)(hle:∀m,nZ h x=some m→n≤m) :
  wfs σ V c∧ones c=true∧(Builtin.firstCells es n (ae σ x)).run P w=.ok ⟨aF σ c⟩ w:=by
 have key:∀{id off len cap:Nat} {d:List MV},V id→n≤len→jQ h id off (Nat.mul len es)=some d→kP (Nat.mul n es) d=some c→
   wfs σ V c∧ones c=true∧(Builtin.firstCells es n (.slice (some ⟨(σ id).blk,(σ id).off+off,none⟩) len cap)).run P w=.ok ⟨aF σ c⟩ w:=by
  intro id off len cap d hv hnl hr ht
  obtain⟨r1,r2,r3,r4⟩:=vk R hv hr
  obtain⟨hn,rfl⟩:=sU ht
  have hmem:∀v∈d.take (Nat.mul n es),v∈d:=fun v hv=>List.mem_of_mem_take hv
  refine⟨(fP _).2 fun v hv=>(fP _).1 r1 v (hmem v hv),(iq _).2 fun v hv=>(iq _).1 r2 v (hmem v hv),?_⟩
  have:=CQ (P:=P) (σ:=σ) (w:=w) (id:=id) (off:=off) (l:=d.take (Nat.mul n es)) (fun i v hi=>r4 i v (by
   rw[List.getElem?_take]at hi
   split at hi
   ·exact hi
   ·cases hi))
  have hlen:(d.take (Nat.mul n es)).length=n*es:=by rw[List.length_take];simp only[Nat.mul_eq]at hn ⊢;omega
  rw[hlen]at this
  exact this
 have empty:∀d:List MV,nZ h x=some 0→kP (Nat.mul n es) ([]:List MV)=some d→n=0∧d=[]:=by
  intro d hl hd
  have hn0:n≤0:=hle 0 hl
  have hn0:n=0:=by omega
  subst hn0
  obtain⟨-,rfl⟩:=sU hd
  simp
 cases x<;>simp only[uT,mZ]at hc<;>first|(cases hc;done)|skip
 ·rename_i b
  split at hc
  ·rename_i l hl
   cases hc
   obtain⟨hn,rfl⟩:=sU hl
   simp only[wf]at x1
   obtain⟨o1,o2⟩:=ais (σ:=σ) (V:=V) (b.take n)
   refine⟨o1,o2,?_⟩
   simp only[ae,Builtin.firstCells,Sem.run_pure]
   congr 1
   rw[ait (fun x hx=>x1 x (List.mem_of_mem_take hx)),←Array.toList_inj]
   simp[bytesV,List.extract_eq_take_drop,List.map_take]
  ·cases hc
 ·obtain⟨rfl,rfl⟩:=empty c rfl hc
  exact⟨trivial,rfl,rfl⟩
 ·rename_i id off len cap
  simp only[wf]at x1
  split at hc
  ·rename_i d hd
   exact key x1.1 (hle len rfl) hd hc
  ·cases hc
 ·rename_i id off l len
  simp only[wf]at x1
  split at hc
  ·rename_i d hd
   exact key x1.1 (hle len rfl) hd hc
  ·cases hc
 ·obtain⟨rfl,rfl⟩:=empty c rfl hc
  refine⟨trivial,rfl,?_⟩
  simp only[ae,Builtin.firstCells,Nat.zero_mul,loadCells,loadCellsFrom]
  rfl
end ops
end Go.aI
namespace Go.aI
variable [O:dw]
open Go.RowKit
section ops
variable {E:Env} {P:Program} {B:Nat→Prop} {W0:World} {σ:Sg} {V:Nat→Prop} {h:MH} {w:World} {ev:Ev} {ρ:Operand→Value}
theorem aiu{d:MV}{n:Nat}{c:List MV}{h':MH}{v:MV}(hd:Fv E d n c h=some (v,h')):∃a m cp,ae σ d=.slice a m cp:=by
 cases d<;>simp only[Fv]at hd<;>first|(cases hd;done)|exact⟨_,_,_,rfl⟩
theorem aiv(hE:bT E P)(R:Rel E.G B W0 σ V h w){ats:Array TypeId}{ty:TypeId}{d x:MV}(d1:wf σ V d)(x1:wf σ V x){v:MV}{h':MH}
  (ho:Fz E ats.toList d x h=some (v,h')):∃w',Rel E.G B W0 σ V h' w'∧h'.nx=h.nx∧wf σ V v∧(Builtin.copy_ ats ty ⟨[ae σ d,ae σ x]⟩).run P w=.ok (ae σ v) w':=by
 unfold Fz at ho
 split at ho
 ·rename_i dt hdt
  rw[vC]at hdt
  split at ho
  ·rename_i D hD
   have uD:=(hE.ty dt D hD).2
   split at ho
   ·rename_i e hd
    rw[hd]at uD
    split at ho
    ·rename_i es dl xl hes hdl hxl
     split at ho
     ·rename_i c hc
      rw[air]at hc ho
      have hxs:(∀id,x≠.mp id)∧x≠.bV:=by
       constructor
       ·rintro id rfl;simp[uT,mZ]at hc
       ·rintro rfl;simp[uT,mZ]at hc
      have hln:=Vp (P:=P) (σ:=σ) (w:=w) hxl hxs.1 hxs.2
      obtain⟨c1,c2,c3⟩:=MJ (P:=P) R x1 hc (fun m hm=>by rw[hxl]at hm;cases hm;exact Nat.min_le_left _ _)
      obtain⟨a,m,cp,hde⟩:=aiu (σ:=σ) ho
      have hm:m=dl:=by
       cases d<;>simp only[nZ]at hdl<;>simp only[ae]at hde<;>first|(cases hde;done)|(cases hdl;done)|(cases hdl;cases hde;rfl)
      subst hm
      have pre:∀K:Value→World→Prop,(∃w',(do
        if let some a:=a then storeCells a (aF σ c)
        pure (goInt (Nat.min xl m)):Sem Value).run P w=.ok (ae σ v) w'∧K (ae σ v) w')→
        ∃w',(Builtin.copy_ ats ty ⟨[ae σ d,ae σ x]⟩).run P w=.ok (ae σ v) w'∧K (ae σ v) w':=by
       rintro K ⟨w',hw,hK⟩
       refine⟨w',?_,hK⟩
       unfold Builtin.copy_
       simp only[hdt]
       rw[show((⟨[ae σ d,ae σ x]⟩:Array Value)[0]?:Option Value)=some (ae σ d) from rfl,show((⟨[ae σ d,ae σ x]⟩:Array Value)[1]?:Option Value)=some (ae σ x) from rfl,hde]
       dsimp only
       rw[Sem.bind_ok (dD uD w)]
       dsimp only
       rw[Sem.bind_ok hln]
       rw[Sem.bind_ok (pW hE hes w)]
       rw[Sem.bind_ok c3]
       exact hw
      have fin:=pre (fun _ w'=>Rel E.G B W0 σ V h' w'∧h'.nx=h.nx∧wf σ V v) (by
       have wr:∀{id off:Nat} {h1:MH} ,V id→a=some ⟨(σ id).blk,(σ id).off+off,none⟩→xh E h id off c=some h1→(v,h')=(.int .i64 (.ofNat (Nat.min xl m)),h1)→
         ∃w',(do
          if let some a:=a then storeCells a (aF σ c)
          pure (goInt (Nat.min xl m)):Sem Value).run P w=.ok (ae σ v) w'∧Rel E.G B W0 σ V h' w'∧h'.nx=h.nx∧wf σ V v:=by
        intro id off h1 hv ha hw he
        cases he
        obtain⟨w',r1,r2,r3⟩:=Md (P:=P) R hv c1 hw
        refine⟨w',?_,r1,r3,trivial⟩
        rw[ha]
        dsimp only
        rw[Sem.bind_ok r2]
        rfl
       cases d<;>simp only[Fv]at ho<;>simp only[ae]at hde<;>first|(cases ho;done)|skip
       ·cases ho
        cases hde
        refine⟨w,?_,R,rfl,trivial⟩
        dsimp only
        rw[show Nat.min xl 0=0 from Nat.min_zero xl]
        rfl
       ·rename_i id off len cap
        simp only[wf]at d1
        split at ho
        ·rename_i h1 hw
         cases hde
         exact wr d1.1 rfl hw (Option.some.inj ho).symm
        ·cases ho
       ·rename_i id off l len
        simp only[wf]at d1
        split at ho
        ·rename_i h1 hw
         cases hde
         exact wr d1.1 rfl hw (Option.some.inj ho).symm
        ·cases ho)
      obtain⟨w',f1,f2,f3,f4⟩:=fin
      exact⟨w',f2,f3,f4,f1⟩
     ·cases ho
    ·cases ho
   ·cases ho
  ·cases ho
 ·cases ho
theorem Rel.take{G:GB}(R:Rel G B W0 σ V h w){id:Nat}{b0 b:MB}(hv:V id)(hb0:h.get id=some b0)(hl0:live b0=true)(hG:G.ro≤id)(o:Obj)(off cap:Nat)
  (hblk:iV (upd σ h.nx ⟨(σ id).blk,off,cap⟩) (iw V h.nx) h.nx (w.putObj (σ id).blk o) b) :
  Rel G B W0 (upd σ h.nx ⟨(σ id).blk,off,cap⟩) (iw V h.nx) ((h.set id .dead).new b) (w.putObj (σ id).blk o):=by
 have kE:¬V h.nx:=fun hv=>Nat.lt_irrefl _ (R.vx _ hv)
 have ha:=oz (V:=V) σ ⟨(σ id).blk,off,cap⟩ kE
 have hown:=R.own id b0 hv hb0 hl0 hG
 have hne:∀k,V k→k≠h.nx:=fun k hk e=>kE (e▸hk)
 have hget:∀k,k≠h.nx→k≠id→((h.set id .dead).new b).get k=h.get k:=fun k h1 h2=>by
  rw[MH.xA,if_neg (by simpa using h1),MH.vg,if_neg h2]
 have aiw:((h.set id .dead).new b).get id=some .dead:=by
  rw[MH.xA,if_neg (by simpa using hne id hv),MH.vg,if_pos rfl]
 have hnew:((h.set id .dead).new b).get h.nx=some b:=by rw[MH.xA,if_pos (by simp)]
 have hheap:∀k,k≠(σ id).blk→(w.putObj (σ id).blk o).heap[k]?=w.heap[k]?:=fun k hk=>World.putObj_heap_other hk
 have old:∀k b',V k→((h.set id .dead).new b).get k=some b'→live b'=true→h.get k=some b'∧(σ k).blk≠(σ id).blk:=by
  intro k b' hk hb' hl'
  by_cases e:k=id
  ·subst e;rw[aiw]at hb';cases hb';cases hl'
  ·rw[hget k (hne k hk) e]at hb'
   exact⟨hb',fun e'=>e (R.inj k id b' b0 hk hv hb' hb0 hl' hl0 e')⟩
 refine⟨fun k b' hk hb'=>?_,fun xC xE b1 b2 hv1 hv2 h1 h2 l1 l2 he=>?_,fun k b' hk hb' hl' hg=>?_,fun k hk=>?_,fun k b' hb'=>?_,fun k hk=>?_,Nat.le_succ_of_le R.gx,
  ⟨R.below.os,R.below.tape,R.below.output,by simpa[World.putObj]using R.below.size,fun k hk=>by rw[hheap k (fun e=>hown (e▸hk))];exact R.below.block k hk⟩⟩
 ·rcases hk with hk|rfl
  ·cases hl':live b' with
   |false=>cases b'<;>first|trivial|cases hl'
   |true=>
    obtain⟨g1,g2⟩:=old k b' hk hb' hl'
    exact(R.blk k b' hk g1).jb ha (fun _ hx=>.inl hx) hk (fun _=>hheap _ g2)
  ·rw[hnew]at hb';cases hb';exact hblk
 ·rcases hv1 with hv1|rfl<;>rcases hv2 with hv2|rfl
  ·obtain⟨g1,-⟩:=old _ _ hv1 h1 l1
   obtain⟨g2,-⟩:=old _ _ hv2 h2 l2
   rw[ha _ hv1,ha _ hv2]at he
   exact R.inj _ _ _ _ hv1 hv2 g1 g2 l1 l2 he
  ·obtain⟨-,g2⟩:=old _ _ hv1 h1 l1
   rw[ha _ hv1,upd_same]at he
   exact absurd he g2
  ·obtain⟨-,g2⟩:=old _ _ hv2 h2 l2
   rw[ha _ hv2,upd_same]at he
   exact absurd he.symm g2
  ·rfl
 ·rcases hk with hk|rfl
  ·obtain⟨g1,-⟩:=old k b' hk hb' hl'
   rw[ha _ hk];exact R.own k b' hk g1 hl' hg
  ·rw[upd_same];exact hown
 ·obtain⟨h1,h2,h3⟩:=R.kR k hk
  refine⟨.inl h1,?_⟩
  rw[ha _ h1];exact⟨h2,h3⟩
 ·by_cases e1:k=h.nx
  ·subst e1;exact Nat.lt_succ_self _
  ·by_cases e2:k=id
   ·subst e2;exact Nat.lt_succ_of_lt (R.vx _ hv)
   ·rw[hget k e1 e2]at hb';exact Nat.lt_succ_of_lt (R.nx k b' hb')
 ·rcases hk with hk|rfl
  ·exact Nat.lt_succ_of_lt (R.vx k hk)
  ·exact Nat.lt_succ_self _
omit O in
theorem aix{need old:Nat}(h1:old<need)(h2:need≤1048576):Builtin.nextslicecap need old≤8388608:=by
 unfold Builtin.nextslicecap
 split
 ·omega
 ·split
  ·omega
  ·simp only[Builtin.growBy]
   (repeat' split)<;>omega
end ops
end Go.aI
namespace Go.aI
variable [O:dw]
open Go.RowKit
def sZ(elem:TypeId)(zeros:Bool)(base:Option Addr)(sLen sCap n size:Nat)(s x:Value)(appended:Sem (Array Value)):Sem Value:=do
 let need:=sLen+n
 if need≤sCap then
  let new ←appended
  if let some a:=base then storeCells (a.add (sLen*size)) new.toList
  pure (.slice base need sCap)
 else
  if(need:Int) > IntKind.i64.max∧(zeros∨(←typeInfo elem).bytes=0)then runtimePanic (.error "growslice: len out of range")
  if Builtin.nextslicecap need sCap*(←typeInfo elem).bytes > 2 ^ 48 then(if zeros then runtimePanic (.error "growslice: len out of range")else do
   if !(←Builtin.mayShare size sLen n base x)then mark .noRoom
   unsupported (.resourceLimit "append: a slice or a string whose bytes no memory bears"))
  let newCap ←choose (.appendCap need sCap elem)
  askRoom (newCap*(←typeInfo elem).bytes)
  let old ←Builtin.firstCells size sLen s
  let new ←appended
  let rest:=Builtin.zeroCells (←zeroValue elem).cells (newCap-need)
  pure (.slice (some (←newRow elem (old++new++rest))) need newCap)
section ops
variable {E:Env} {P:Program} {B:Nat→Prop} {W0:World} {σ:Sg} {V:Nat→Prop} {h:MH} {w:World} {ev:Ev} {ρ:Operand→Value}
theorem MK(hE:bT E P)(R:Rel E.G B W0 σ V h w)(hW:∀k,B k→k<W0.heap.size){e:TypeId}{Te:MT}(hTe:E.ty.get e=some Te)(hby:Te.info.bytes≤65536)
  {z:List MV} (hz:qE Te=some z) {zeros:Bool} {base:Option Addr} {sLen sCap n:Nat} {s x:Value} {App:Sem (Array Value)} {old c:List MV}
  (hfit:sCap<sLen+n) (hold:∀w',(w'=w.drew)→(Builtin.firstCells Te.info.size sLen s).run P w'=.ok ⟨aF σ old⟩ w') (ho1:wfs σ V old) (ho2:ones old=true) (ho3:old.length=sLen*Te.info.size)
  (happ:App.run P w.drew=.ok ⟨aF σ c⟩ w.drew) (hc1:wfs σ V c) (hc2:ones c=true) (hc3:c.length=n*Te.info.size)
  {v:MV} {h':MH} (ho:yT e Te.info.size sLen n (old++c) h=some (v,h')) :
  gK E.G B W0 σ V h h' (fun σ' V' w'=>wf σ' V' v∧(sZ e zeros base sLen sCap n Te.info.size s x App).run P w=.ok (ae σ' v) w'):=by
 unfold yT at ho
 cases hb:Nat.ble (Nat.add sLen n) 1048576 with
 |false=>rw[hb]at ho;cases ho
 |true=>
  rw[hb]at ho
  cases ho
  have hb:=Nat.le_of_ble_eq_true hb
  simp only[Nat.add_eq]at hb
  obtain⟨ti,tu⟩:=hE.ty e Te hTe
  obtain⟨m,m1,m2,m3,m4,m5⟩:=xG (σ:=σ) (V:=V) hE hTe hz
  have hgr:=aix hfit hb
  obtain⟨cap,hcap,hch⟩:∃cap,sLen+n≤cap∧(choose (.appendCap (sLen+n) sCap e)).run P w=.ok cap w.drew:=by
   refine⟨(sLen+n)+w.tape w.drawn (.appendCap (sLen+n) sCap e) % (2 ^ 63-(sLen+n)),by omega,?_⟩
   rw[run_choose_drew]
   simp[Question.forced,Question.cut]
  let cells:Array Value:=⟨aF σ old⟩++⟨aF σ c⟩++Builtin.zeroCells (ae σ m).cells (cap-(sLen+n))
  have hzc:Builtin.zeroCells (ae σ m).cells (cap-(sLen+n))=⟨aF σ (List.replicate (cap-(sLen+n)) z).flatten⟩:=by
   unfold Builtin.zeroCells
   rw[m2]
   have hzs:(⟨aF σ z⟩:Array Value).size=Te.info.size:=by rw[dS];simpa using m5
   have:=Gn (σ:=σ) (n:=cap-(sLen+n)) m5
   rw[hzs]at this ⊢
   exact this
  have hcs:cells=⟨aF σ (old++c++(List.replicate (cap-(sLen+n)) z).flatten)⟩:=by
   simp only[cells,hzc,dS,List.map_append]
   simp
  have hsz:cells.size=cap*Te.info.size:=by
   rw[hcs,dS]
   simp only[List.size_toArray,List.length_map,List.length_append,ho3,hc3]
   simp[m5]
   rw[←Nat.add_mul,←Nat.add_mul]
   congr 1
   omega
  have hblk:iV (upd σ h.nx ⟨w.drew.heap.size,0,cap⟩) (iw V h.nx) h.nx (w.drew.alloc (.cells cells e)) (.cells (old++c) e Te.info.size true):=by
   have kE:¬V h.nx:=fun hv=>Nat.lt_irrefl _ (R.vx _ hv)
   have ha:=oz (V:=V) σ ⟨w.drew.heap.size,0,cap⟩ kE
   have hoc:wfs σ V (old++c):=vF.2 ⟨ho1,hc1⟩
   refine⟨cells,(0,0),by rw[upd_same];exact qJ _ _,pV ha (fun _ hx=>.inl hx) _ hoc,?_,fun i u hi=>?_,fun _=>?_,.inl rfl⟩
   ·rw[iq];intro u hu
    rcases List.mem_append.1 hu with hu|hu
    ·exact(iq _).1 ho2 u hu
    ·exact(iq _).1 hc2 u hu
   ·rw[upd_same,qH ha u ((fP _).1 hoc u (List.mem_of_getElem? hi)),hcs,dS]
    have hlt:=(List.getElem?_eq_some_iff.1 hi).1
    simp only[Nat.zero_add,List.getElem?_toArray,List.getElem?_map]
    rw[List.getElem?_append_left hlt,hi]
    rfl
   ·rw[upd_same,hsz];simp
  refine gK.new R.drew hW 0 cap hblk ⟨?_,?_⟩
  ·simp only[wf,upd_same]
   exact⟨.inr rfl,by show 0+(sLen+n)≤cap;omega⟩
  ·unfold sZ
   dsimp only
   rw[if_neg (by omega)]
   rw[Sem.bind_ok (CP ti w)]
   rw[if_neg (by
    rintro⟨h1,-⟩
    simp only[IntKind.max,IntKind.signed,IntKind.bits]at h1
    simp at h1
    omega)]
   rw[Sem.bind_ok (CP ti w)]
   rw[if_neg (by
    have:Builtin.nextslicecap (sLen+n) sCap*Te.info.bytes≤8388608*65536:=Nat.mul_le_mul hgr hby
    omega)]
   rw[Sem.bind_ok hch,Sem.bind_ok (CP ti _),Sem.bind_ok (run_askRoom (P:=P) (w:=w.drew) _),Sem.bind_ok (hold _ rfl),Sem.bind_ok happ,Sem.bind_ok (m1 _)]
   refine(Sem.bind_ok (vG e _ _)).trans ?_
   simp only[Sem.run_pure,ae,upd_same]
   rfl
theorem aiy(hE:bT E P)(R:Rel E.G B W0 σ V h w)(hW:∀k,B k→k<W0.heap.size){e:TypeId}{Te:MT}(hTe:E.ty.get e=some Te)(hby:Te.info.bytes≤65536)
  {z:List MV} (hz:qE Te=some z) {zeros:Bool} {base:Option Addr} {sLen sCap n:Nat} {s:MV} {x:Value} {App:Sem (Array Value)} {c:List MV} (s1:wf σ V s) (hs:ae σ s=.slice base sLen sCap)
  (happ:∀w',(w'=w∨w'=w.drew)→App.run P w'=.ok ⟨aF σ c⟩ w') (hc1:wfs σ V c) (hc2:ones c=true) (hc3:c.length=n*Te.info.size)
  {v:MV} {h':MH} (ho:BX E e Te.info.size s n c h=some (v,h')) :
  gK E.G B W0 σ V h h' (fun σ' V' w'=>wf σ' V' v∧(sZ e zeros base sLen sCap n Te.info.size (ae σ s) x App).run P w=.ok (ae σ' v) w'):=by
 unfold BX at ho
 split at ho
 ·
  cases hs
  cases hb:Nat.beq n 0 with
  |true=>
   rw[hb]at ho
   cases ho
   have:=Nat.eq_of_beq_eq_true hb
   subst this
   refine gK.same rfl R ⟨trivial,?_⟩
   unfold sZ
   dsimp only
   rw[if_pos (by omega),Sem.bind_ok (happ w (.inl rfl))]
   rfl
  |false=>
   rw[hb]at ho
   simp only[cond_false]at ho
   have hn:n≠0:=fun e=>by subst e;cases hb
   exact MK hE R hW hTe hby hz (old:=[]) (by omega) (fun w' _=>rfl) trivial rfl (by simp) (happ _ (.inr rfl)) hc1 hc2 hc3 ho
 ·
  rename_i id off len cap
  simp only[ae,Value.slice.injEq]at hs
  obtain⟨rfl,rfl,rfl⟩:=hs
  simp only[wf]at s1
  cases hb:Nat.ble (Nat.add len n) cap with
  |true=>
   rw[hb]at ho
   simp only[cond_true]at ho
   have hb:=Nat.le_of_ble_eq_true hb
   simp only[Nat.add_eq]at hb
   split at ho
   ·rename_i h1 hw
    cases ho
    obtain⟨w',r1,r2,r3⟩:=Md (P:=P) R s1.1 hc1 hw
    refine gK.same r3 r1 ⟨by simp only[wf];exact⟨s1.1,hb⟩,?_⟩
    unfold sZ
    dsimp only
    rw[if_pos hb,Sem.bind_ok (happ w (.inl rfl))]
    dsimp only
    simp only[Nat.add_eq,Nat.mul_eq]at r2
    rw[Addr.add_lit,Nat.add_assoc]
    rw[Sem.bind_ok r2]
    rfl
   ·cases ho
  |false=>
   rw[hb]at ho
   simp only[cond_false]at ho
   have hb:¬len+n≤cap:=fun hle=>by
    have:Nat.ble (Nat.add len n) cap=true:=Nat.ble_eq_true_of_le hle
    rw[this]at hb;cases hb
   split at ho
   ·rename_i old hr
    obtain⟨r1,r2,r3,r4⟩:=vk R s1.1 hr
    have MM:=(vk R.drew s1.1 hr).2.2.2
    refine MK hE R hW hTe hby hz (old:=old) (by omega) (fun w' hw'=>?_) r1 r2 r3 (happ _ (.inr rfl)) hc1 hc2 hc3 ho
    subst hw'
    have:=CQ (P:=P) MM
    rw[r3]at this
    exact this
   ·cases ho
 ·
  rename_i id off l len
  simp only[ae,Value.slice.injEq]at hs
  obtain⟨rfl,rfl,rfl⟩:=hs
  simp only[wf]at s1
  cases hb:Nat.beq n 0 with
  |true=>
   rw[hb]at ho
   cases ho
   have:=Nat.eq_of_beq_eq_true hb
   subst this
   have hcn:c=[]:=List.eq_nil_of_length_eq_zero (by simpa using hc3)
   subst hcn
   refine gK.same rfl R ⟨by simp only[wf];exact s1,?_⟩
   unfold sZ
   dsimp only
   rw[if_pos (by omega),Sem.bind_ok (happ w (.inl rfl))]
   rfl
  |false=>
   rw[hb]at ho
   simp only[cond_false]at ho
   have hn:n≠0:=fun e=>by subst e;cases hb
   split at ho
   ·rename_i cs t' es' hg
    cases hc:(and (Nat.ble E.G.ro id) (and (Nat.beq es' Te.info.size) (and (Nat.beq off (Nat.mul l Te.info.size)) (Nat.beq t' e))))with
    |false=>rw[hc]at ho;cases ho
    |true=>
     rw[hc]at ho
     simp only[cond_true]at ho
     obtain⟨k1,k2⟩:=dL hc
     obtain⟨k2,k3⟩:=dL k2
     obtain⟨k3,k4⟩:=dL k3
     have g4:=Nat.eq_of_beq_eq_true k4
     have g1:=Nat.le_of_ble_eq_true k1
     have g2:=Nat.eq_of_beq_eq_true k2
     have g3:=Nat.eq_of_beq_eq_true k3
     simp only[Nat.mul_eq]at g3
     clear k1 k2 k3 k4 hc
     subst g2
     subst g4
     split at ho
     ·rename_i old hr
      have hrd:jQ h id off (Nat.mul len Te.info.size)=some old:=by unfold jQ;rw[hg];exact hr
      obtain⟨r1,r2,r3,r4⟩:=vk R s1.1 hrd
      have MM:=(vk R.drew s1.1 hrd).2.2.2
      by_cases hfit:len+n≤(σ id).cap-l
      ·
       unfold yT at ho
       cases hb2:Nat.ble (Nat.add len n) 1048576 with
       |false=>rw[hb2]at ho;cases ho
       |true=>
        rw[hb2]at ho
        cases ho
        obtain⟨c0,fz,b1,b2,b3,b4,b5,b6⟩:=R.blk id _ s1.1 hg
        have b5:=b5 rfl
        have hlen:(aF σ c).length=n*Te.info.size:=by rw[dS];simpa using hc3
        have hroom:(σ id).off+off+len*Te.info.size+n*Te.info.size≤c0.size:=by
         have h2:(l+len+n)*Te.info.size≤(σ id).cap*Te.info.size:=Nat.mul_le_mul_right _ (by omega)
         rw[Nat.add_mul,Nat.add_mul,←g3]at h2
         omega
        have hst:=Ve (P:=P) (b:=(σ id).blk) (o:=(σ id).off+off+len*Te.info.size) (aF σ c) 0 c0 w b1 b6 (by rw[hlen];omega) (fun u hu=>by
         rw[dS]at hu
         obtain⟨u',hu',rfl⟩:=List.mem_map.1 hu
         exact Mc σ ((iq _).1 hc2 u' hu'))
        simp only[Nat.add_zero]at hst
        have hls:=mr ((σ id).off+off+len*Te.info.size) (aF σ c) c0.toList (by rw[hlen];simpa using hroom)
        have kE:¬V h.nx:=fun hv=>Nat.lt_irrefl _ (R.vx _ hv)
        have ha:=oz (V:=V) σ ⟨(σ id).blk,(σ id).off+off,(σ id).cap-l⟩ kE
        have hoc:wfs σ V (old++c):=vF.2 ⟨r1,hc1⟩
        have hblk:iV (upd σ h.nx ⟨(σ id).blk,(σ id).off+off,(σ id).cap-l⟩) (iw V h.nx) h.nx
          (w.putObj (σ id).blk (.cells ⟨jD ((σ id).off+off+len*Te.info.size) (aF σ c) c0.toList⟩ t' fz)) (.cells (old++c) t' Te.info.size true):=by
         refine⟨_,fz,by rw[upd_same];exact World.putObj_heap_same (R.lt s1.1 hg rfl),pV ha (fun _ hx=>.inl hx) _ hoc,?_,fun i u hi=>?_,fun _=>?_,?_⟩
         ·rw[iq];intro u hu
          rcases List.mem_append.1 hu with hu|hu
          ·exact(iq _).1 r2 u hu
          ·exact(iq _).1 hc2 u hu
         ·rw[upd_same,qH ha u ((fP _).1 hoc u (List.mem_of_getElem? hi))]
          dsimp only
          rw[List.getElem?_toArray,hls.2,hlen]
          have r3':old.length=len*Te.info.size:=r3
          by_cases hi2:i<old.length
          ·rw[List.getElem?_append_left hi2]at hi
           rw[if_neg (by omega),Array.getElem?_toList]
           have:=r4 i u hi
           simp only[World.cell?,b1]at this
           simpa using this
          ·rw[List.getElem?_append_right (by omega)]at hi
           have hlt:=(List.getElem?_eq_some_iff.1 hi).1
           rw[if_pos (by omega),dS,List.getElem?_map,show(σ id).off+off+i-((σ id).off+off+len*Te.info.size)=i-old.length by omega,hi]
           rfl
         ·rw[upd_same]
          simp only[List.size_toArray,hls.1,Array.length_toList]
          have h2:l*Te.info.size+((σ id).cap-l)*Te.info.size=(σ id).cap*Te.info.size:=by rw[←Nat.add_mul];congr 1;omega
          omega
         ·simp only[List.size_toArray,hls.1,Array.length_toList]
          exact b6
        refine⟨_,_,_,ha,fun _ hx=>.inl hx,fun k hx=>hx.imp (fun x=>x) (fun e=>Nat.le_of_eq e.symm),Nat.le_succ _,R.take s1.1 hg rfl g1 _ _ _ hblk,?_,?_⟩
        ·simp only[wf,MH.UU,upd_same]
         exact⟨.inr rfl,by show 0+(len+n)≤_;omega⟩
        ·unfold sZ
         dsimp only
         rw[if_pos hfit,Sem.bind_ok (happ w (.inl rfl))]
         dsimp only
         rw[Addr.add_lit,Sem.bind_ok hst]
         simp only[Sem.run_pure,ae,MH.UU,upd_same,Nat.add_zero,Nat.sub_zero]
         rfl
      ·have hgrow:=MK (zeros:=zeros) (base:=some ⟨(σ id).blk,(σ id).off+off,none⟩) (sCap:=(σ id).cap-l) (x:=x) hE (R.kill hg) hW hTe hby hz (old:=old) (s:=ae σ (.bQ id off l len)) (by omega) (fun w' hw'=>by
        subst hw'
        have:=CQ (P:=P) MM
        rw[r3]at this
        exact this) r1 r2 r3 (happ _ (.inr rfl)) hc1 hc2 hc3 ho
       exact hgrow
     ·cases ho
   ·cases ho
 ·cases ho
end ops
end Go.aI
