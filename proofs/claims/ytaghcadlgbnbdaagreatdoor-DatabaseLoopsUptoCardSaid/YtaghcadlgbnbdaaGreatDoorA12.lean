/- A part of the proof. -/
import Derived.Test.YtaghcadlgbnbdaaGreatDoorA11
import Derived.TacticsIn
import Derived.LoopNIn
import Derived.RangeFuncIn
import Derived.RangeFuncLeaves
namespace Go.aY
variable [O:dO]
open Go.RowKit
omit O in
theorem Kt{w:World}{b:Nat}{o:Obj}(h:w.heap[b]?=some o):w.putObj b o=w:=by
 have:w.heap.setIfInBounds b o=w.heap:=by
  apply Array.ext_getElem?
  intro i
  rw[Array.getElem?_setIfInBounds]
  split
  ·rename_i e
   subst e
   obtain⟨hb,hv⟩:=Array.getElem?_eq_some_iff.1 h
   simp[hb,hv]
  ·rfl
 simp only[World.putObj,this]
omit O in
theorem anE{w:World}{b:Nat}{o o':Obj}:(w.putObj b o).putObj b o'=w.putObj b o':=by
 simp only[World.putObj]
 congr 1
 apply Array.ext_getElem?
 intro i
 simp only[Array.getElem?_setIfInBounds]
 split<;>simp
omit O in
theorem anF{w:World}{b o:Nat}{c:Array Value}{t:TypeId}{fz:Nat×Nat}{v:Value}(h:w.heap[b]?=some (.cells c t fz)) :
  w.setCell ⟨b,o,none⟩ v=w.putObj b (.cells (c.setIfInBounds o v) t fz):=by
 simp only[World.setCell,World.putObj]
 congr 1
 apply Array.ext_getElem?
 intro i
 rw[Array.getElem?_modify,Array.getElem?_setIfInBounds]
 split
 ·rename_i e
  subst e
  obtain⟨hb,-⟩:=Array.getElem?_eq_some_iff.1 h
  rw[h]
  simp[hb]
 ·rfl
theorem aab(σ:Sg){v:MV}(h:one v=true):(af σ v).oneCell'=true:=by
 cases v<;>simp only[one,Bool.false_eq_true]at h<;>first|rfl|exact O.one _
omit O in
theorem aac{P:Program}{b o:Nat}{t:TypeId}{fz:Nat×Nat}:∀(vs:List Value) (i:Nat) (c:Array Value) (w:World),w.heap[b]?=some (.cells c t fz)→
  (fz.1=fz.2∨c.size≤fz.1)→o+i+vs.length≤c.size→(∀v∈vs,v.oneCell'=true)→
  (storeCells ⟨b,o,none⟩ vs i).run P w=.ok () (w.putObj b (.cells ⟨jW (o+i) vs c.toList⟩ t fz)):=by
 intro vs
 induction vs with
 |nil=>
  intro i c w h _ hl _
  unfold storeCells
  have:jW (o+i) [] c.toList=c.toList:=by
   apply List.ext_getElem?
   intro k
   rw[(oK (o+i) [] c.toList (by simpa using hl)).2,if_neg (by simp)]
  rw[this,Kt h]
  rfl
 |cons v vs ih=>
  intro i c w h hfz hl h1
  simp only[List.length_cons]at hl
  unfold storeCells
  have hlt:o+i<c.size:=by omega
  have hb:b<w.heap.size:=(Array.getElem?_eq_some_iff.1 h).1
  have hcell:w.cell? ⟨b,o+i,none⟩=some c[o+i]:=by simp[World.cell?,h,hlt]
  have hfr:w.frozen? ⟨b,o+i,none⟩=false:=by
   simp only[World.frozen?,h]
   rcases hfz with hfz|hfz
   ·simp;omega
   ·simp;omega
  have hst:(store (Addr.add ⟨b,o,none⟩ i) v).run P w=.ok () (w.putObj b (.cells (c.setIfInBounds (o+i) v) t fz)):=by
   rw[Addr.add_lit,run_store _ _ _ _ _ (h1 v (by simp)),hcell]
   simp only[hfr,Bool.false_eq_true,if_false]
   rw[anF h]
  rw[Sem.bind_ok hst]
  rw[ih (i+1) (c.setIfInBounds (o+i) v) _ (World.putObj_heap_same hb) (by simpa using hfz) (by simp;omega) (fun x hx=>h1 x (by simp[hx]))]
  rw[anE]
  congr 3
  apply congrArg
  apply List.ext_getElem?
  intro k
  have h1:=oK (o+(i+1)) vs (c.setIfInBounds (o+i) v).toList (by simp;omega)
  have h2:=oK (o+i) (v::vs) c.toList (by simp;omega)
  rw[h1.2,h2.2]
  simp only[List.length_cons,Array.toList_setIfInBounds,List.getElem?_set]
  by_cases e:k=o+i
  ·subst e
   rw[if_neg (by omega),if_pos rfl,if_pos (by simp;omega),if_pos (by omega)]
   simp
  ·by_cases e2:o+(i+1)≤k∧k<o+(i+1)+vs.length
   ·rw[if_pos e2,if_pos (by omega),show k-(o+i)=(k-(o+(i+1)))+1 by omega]
    simp
   ·rw[if_neg e2,if_neg (by omega),if_neg (by omega)]
section ops
variable {E:Env} {P:Program} {B:Nat→Prop} {W0:World} {σ:Sg} {V:Nat→Prop} {h:MH} {w:World} {ev:Ev} {ρ:Operand→Value}
theorem QR(R:Rel E.G B W0 σ V h w){id off:Nat}{vs:List MV}{h':MH}(hv:V id)(hvs:wfs σ V vs)(ho:zM E h id off vs=some h') :
  ∃w',Rel E.G B W0 σ V h' w'∧(storeCells ⟨(σ id).blk,(σ id).off+off,none⟩ (aH σ vs)).run P w=.ok () w'∧h'.nx=h.nx:=by
 unfold zM at ho
 cases hg:Nat.blt id E.G.ro with
 |true=>rw[hg]at ho;cases ho
 |false=>
  rw[hg]at ho
  simp only[cond_false]at ho
  have hG:E.G.ro≤id:=by
   rcases Nat.lt_or_ge id E.G.ro with hlt|hge
   ·rw[FZ hlt]at hg;cases hg
   ·exact hge
  split at ho
  ·rename_i cs t es opn hb
   cases hc:(and (ones vs) (Nat.ble (Nat.add off (eH vs 0)) (eH cs 0)))with
   |false=>rw[hc]at ho;cases ho
   |true=>
    rw[hc]at ho
    simp only[cond_true,Option.some.injEq]at ho
    subst ho
    obtain⟨c1,c2⟩:=jX hc
    have c2:=Nat.le_of_ble_eq_true c2
    rw[lH,lH]at c2
    simp only[Nat.add_zero,Nat.add_eq]at c2
    obtain⟨c,fz,b1,b2,b3,b4,b5,b6⟩:=R.blk id _ hv hb
    have hlen:(aH σ vs).length=vs.length:=by rw[dZ];simp
    have hsz:∀i,i<cs.length→(σ id).off+i<c.size:=fun i hi=>by
     have:=b4 i _ (List.getElem?_eq_getElem hi)
     exact(Array.getElem?_eq_some_iff.1 this).1
    have hfit:vs.length=0∨(σ id).off+off+vs.length≤c.size:=by
     rcases Nat.eq_zero_or_pos vs.length with h0|h0
     ·exact .inl h0
     ·have:=hsz (off+vs.length-1) (by omega)
      exact .inr (by omega)
    obtain⟨g1,g2,g3⟩:=Z7 (σ:=σ) (V:=V) (off:=off) (vs:=vs) (cs:=cs) (by omega) hvs c1 b2 b3
    rcases hfit with h0|hfit
    ·have hnil:vs=[]:=List.eq_nil_of_length_eq_zero h0
     subst hnil
     have e:jW off [] cs=cs:=by
      apply List.ext_getElem?
      intro k
      rw[(oK off [] cs c2).2,if_neg (by simp)]
     refine⟨w,?_,rfl,rfl⟩
     have:=R.write hv hb rfl hG (.cells c t fz) (b:=.cells cs t es opn) (by rw[Kt b1];exact R.blk id _ hv hb)
     rw[Kt b1]at this
     rw[e];exact this
    ·refine⟨w.putObj (σ id).blk (.cells ⟨jW ((σ id).off+off) (aH σ vs) c.toList⟩ t fz),?_,?_,rfl⟩
     ·refine R.write hv hb rfl hG _ ⟨_,fz,World.putObj_heap_same (R.lt hv hb rfl),g1,g2,fun i v hi=>?_,fun hop=>?_,?_⟩
      ·have l1:=oK off vs cs c2
       have l2:=oK ((σ id).off+off) (aH σ vs) c.toList (by simp only[hlen,Array.length_toList];omega)
       rw[l1.2]at hi
       rw[List.getElem?_toArray,l2.2,hlen]
       by_cases e:off≤i∧i<off+vs.length
       ·rw[if_pos e]at hi
        rw[if_pos (by omega),dZ,List.getElem?_map,show(σ id).off+i-((σ id).off+off)=i-off by omega,hi]
        rfl
       ·rw[if_neg e]at hi
        rw[if_neg (by omega),Array.getElem?_toList]
        exact b4 i v hi
      ·have l2:=oK ((σ id).off+off) (aH σ vs) c.toList (by simp only[hlen,Array.length_toList];omega)
       have:=b5 hop
       simp only[List.size_toArray,l2.1,Array.length_toList]
       exact this
      ·have l2:=oK ((σ id).off+off) (aH σ vs) c.toList (by simp only[hlen,Array.length_toList];omega)
       simp only[List.size_toArray,l2.1,Array.length_toList]
       exact b6
     ·have:=aac (P:=P) (b:=(σ id).blk) (o:=(σ id).off+off) (aH σ vs) 0 c w b1 b6 (by rw[hlen];exact hfit) (fun v hv'=>by
       rw[dZ]at hv'
       obtain⟨u,hu,rfl⟩:=List.mem_map.1 hv'
       exact aab σ ((jO _).1 c1 u hu))
      simpa using this
  ·cases ho
omit O in
theorem QS{n:Nat}{z:List MV}(h:wfs σ V z):wfs σ V (List.replicate n z).flatten:=by
 rw[je]at *
 intro v hv
 simp only[List.mem_flatten,List.mem_replicate]at hv
 obtain⟨l,⟨-,rfl⟩,hv⟩:=hv
 exact h v hv
omit O in
theorem QU{n:Nat}{z:List MV}(h:ones z=true):ones (List.replicate n z).flatten=true:=by
 rw[jO]at *
 intro v hv
 simp only[List.mem_flatten,List.mem_replicate]at hv
 obtain⟨l,⟨-,rfl⟩,hv⟩:=hv
 exact h v hv
theorem anG(n:Nat)(z:List MV):aH σ (List.replicate n z).flatten=(List.replicate n (aH σ z)).flatten:=by
 simp only[dZ,List.map_flatten,List.map_replicate]
omit O in
theorem uV(w:World)(o:Obj):(w.alloc o).heap[w.heap.size]?=some o:=by
 show(w.heap.push o)[w.heap.size]?=_
 simp
theorem Ku{cs:List MV}{t:TypeId}{es:Nat}{id:Nat}(hc:wfs σ V cs)(h1:ones cs=true)(hid:¬V id)(w:World) :
  jP (upd σ id ⟨w.heap.size,0,0⟩) (iy V id) id (w.alloc (.cells ⟨aH σ cs⟩ t)) (.cells cs t es false):=by
 have ha:=qJ (V:=V) σ ⟨w.heap.size,0,0⟩ hid
 refine⟨⟨aH σ cs⟩,(0,0),?_,sO ha (fun _ hx=>.inl hx) _ hc,h1,fun i v hv=>?_,?_,?_⟩
 ·rw[upd_same];exact uV w _
 ·rw[upd_same,uU ha v ((je _).1 hc v (List.mem_of_getElem? hv)),dZ]
  simp[hv]
 ·intro hf;cases hf
 ·exact .inl rfl
omit O in
theorem yz(t:TypeId)(c:Array Value)(w:World):(newRow t c).run P w=.ok ⟨w.heap.size,0,none⟩ (w.alloc (.cells c t)):=rfl
omit O in
theorem anH(o:Obj)(w:World):(newObj o).run P w=.ok w.heap.size (w.alloc o):=rfl
theorem aad{n s:Nat}{z:List MV}(hz:z.length=s)(h0:n*s=0)(f:Nat→Value):(Array.range (n*s)).map f=⟨aH σ (List.replicate n z).flatten⟩:=by
 have:(List.replicate n z).flatten=[]:=List.eq_nil_of_length_eq_zero (by simp[hz,h0])
 rw[this,h0];simp[aH]
theorem Kv{n s:Nat}{z:List MV}(hz:z.length=s) :
  ((Array.range (n*s)).map fun i=>(⟨aH σ z⟩:Array Value)[i % (⟨aH σ z⟩:Array Value).size]!)=⟨aH σ (List.replicate n z).flatten⟩:=by
 have:=anm (aH σ z) n
 rw[show(aH σ z).length=s by rw[dZ];simpa using hz]at this
 rw[anG]
 exact this
omit O in
theorem wrap_small{n:Nat}(h:n<2 ^ 62):IntKind.i64.wrap (Int.ofNat n)=(n:Int):=by
 unfold IntKind.wrap
 have e:(Int.ofNat n) % (2 ^ IntKind.i64.bits:Int)=n:=Int.emod_eq_of_lt (by simp) (by simp[IntKind.bits];omega)
 simp only[e]
 rw[if_neg (by simp[IntKind.bits];omega)]
omit O in
theorem aae{o:Option MV}{k:gz}{b:MB}(ho:vR o=some (.new k b)):False:=by
 unfold vR at ho;split at ho<;>cases ho
omit O in
theorem aaf{o:Option (MV×MH)}{k:gz}{b:MB}(ho:mr o=some (.new k b)):False:=by
 unfold mr at ho;split at ho<;>cases ho
def fV(o:Option MR):Prop:=∀r,o=some r→∃v,r=.val v
omit O in
theorem sU(o:Option MV):fV (vR o):=by
 intro r h;unfold vR at h;split at h
 ·cases h;exact⟨_,rfl⟩
 ·cases h
omit O in
theorem fZ:fV none:=fun r h=>by cases h
omit O in
theorem mG(v:MV):fV (some (.val v)):=fun r h=>by cases h;exact⟨_,rfl⟩
omit O in
theorem Ac{b:Bool}{x y:Option MR}(hx:fV x)(hy:fV y):fV (cond b x y):=by cases b<;>assumption
omit O in
theorem Kw(c a b:Operand):fV (BZ ev c a b):=by
 unfold BZ;split
 ·exact sU _
 ·exact fZ
omit O in
theorem anI(o:Option (List MV)):fV (Cb o):=by
 unfold Cb;split
 ·exact mG _
 ·exact fZ
omit O in
theorem Ky(t:TypeId)(p:Array (Nat×Operand)):fV (Cc E ev t p):=by
 unfold Cc
 (repeat' split)<;>first|exact fZ|exact anI _
omit O in
theorem F6(t:TypeId)(x:Operand):fV (Ce E ev t x h):=by
 unfold Ce;split
 ·exact sU _
 ·exact fZ
omit O in
theorem Kz(x:Operand):fV (Cf ev x):=by
 unfold Cf
 split<;>first|exact fZ|exact mG _
omit O in
theorem anJ(op:BinOp)(t:TypeId)(x y:Operand):fV (Ci E ev op t x y):=by
 unfold Ci
 (repeat' split)<;>first|exact fZ|exact sU _|skip
 all_goals refine Ac ?_ fZ
 all_goals first|exact fZ|exact mG _
omit O in
theorem KA(op:BinOp)(t:TypeId)(x y:Operand):fV (Cj E ev op t x y):=by
 unfold Cj
 split
 ·exact mG _
 ·exact anJ op t x y
omit O in
theorem KC(op:UnOp)(x:Operand):fV (Cm ev op x):=by
 unfold Cm
 (repeat' split)<;>first|exact fZ|exact mG _|exact sU _
omit O in
theorem KD(f:Fn)(a b:Array Operand):fV (CB ev f a b):=by
 unfold CB;split<;>first|exact fZ|exact mG _
omit O in
theorem anK(id off cap es lo hi mx:Nat):fV (BR id off cap es lo hi mx):=Ac (mG _) fZ
omit O in
theorem anL(id off l len es lo hi:Nat):fV (JI id off l len es lo hi):=Ac (mG _) fZ
omit O in
theorem KE(t:TypeId)(x:Operand)(lo hi mx:Option Operand):fV (CE E ev t x lo hi mx):=by
 unfold CE
 split
 ·split
  ·exact fZ
  ·unfold Qc
   (repeat' split)<;>first|exact fZ|exact anK _ _ _ _ _ _ _|exact anL _ _ _ _ _ _ _|(refine Ac ?_ fZ;first|exact mG _|exact fZ)
 ·exact fZ
omit O in
theorem KF(t:TypeId)(x:Operand)(f:Nat):fV (CG E ev t x f):=by
 unfold CG
 (repeat' split)<;>first|exact fZ|exact Ac fZ (mG _)
omit O in
theorem KG(t:TypeId)(x:Operand)(f:Nat):fV (CJ E ev t x f):=by
 unfold CJ
 (repeat' split)<;>first|exact fZ|exact sU _
omit O in
theorem anM(e:TypeId)(id off len i:Nat):fV (zQ E e id off len i):=by
 unfold zQ;split
 ·exact Ac (mG _) fZ
 ·exact fZ
omit O in
theorem KH(t:TypeId)(x i:Operand):fV (CO E ev t x i):=by
 unfold CO
 (repeat' split)<;>first|exact fZ|exact anM _ _ _ _ _
omit O in
theorem KI(t:TypeId)(x i:Operand):fV (CP E ev t x i):=by
 unfold CP
 (repeat' split)<;>first|exact fZ|exact mG _|exact Ac (sU _) fZ
omit O in
theorem F7(t:TypeId)(m k:Operand)(ok:Bool):fV (CQ E ev t m k ok h):=by
 unfold CQ
 split
 ·unfold Qd
  (repeat' split)<;>first|exact fZ|exact mG _
 ·exact fZ
omit O in
theorem KJ(t:Operand)(i:Nat):fV (CU ev t i):=by
 unfold CU;split
 ·exact sU _
 ·exact fZ
omit O in
theorem anN(t:TypeId)(x:MV):fV (FC E t x h):=by
 unfold FC
 (repeat' split)<;>first|exact fZ|exact mG _
omit O in
theorem anO(t:TypeId)(x:MV):fV (FD E t x):=by
 unfold FD
 (repeat' split)<;>first|exact fZ|exact mG _
omit O in
theorem anP(k:P6)(args:List MV):fV (BX k args):=by
 unfold BX
 split
 ·rename_i s c
  cases Nat.blt c 256<;>first|exact fZ|exact mG _
 ·exact fZ
omit O in
theorem uY{o:Option (MV×MH)}{r:MR}(ho:mr o=some r):∃v h',o=some (v,h')∧r=.upd v h':=by
 unfold mr at ho;split at ho
 ·cases ho;exact⟨_,_,rfl,rfl⟩
 ·cases ho
omit O in
theorem KL{c:Call}{r:MR}(ho:wE E ev c h=some r):∃args,evs ev c.args.toList=some args∧
  ((∃v,r=.val v)∨
   (∃x y v h',c.callee=.builtin .append∧args=[x,y]∧r=.upd v h'∧JJ E c.argTypes.toList x y h=some (v,h'))∨
   (∃x y v h',c.callee=.builtin .copy∧args=[x,y]∧r=.upd v h'∧JM E c.argTypes.toList x y h=some (v,h'))∨
   (∃x y t v h',c.callee=.builtin .delete∧args=[x,y]∧r=.upd v h'∧jd c.argTypes.toList 0=some t∧JO E t x y h=some (v,h'))∨
   (∃f g a b,c.callee=.value f∧ev f=some (.fn g a b)∧E.ext g=none∧r=.enter g (a++args++b))∨
   (∃f l,c.callee=.value f∧ev f=some (.dh l)∧r=.round l args)):=by
 unfold wE at ho
 split at ho
 ·cases ho
 ·rename_i args hargs
  refine⟨args,hargs,?_⟩
  split at ho
  ·rename_i b hb
   unfold Qh at ho
   split at ho
   ·split at ho
    ·exact .inl (anN _ _ _ ho)
    ·exact .inl (anO _ _ _ ho)
    ·cases ho
   ·rename_i x y
    split at ho
    ·obtain⟨v,h',e1,e2⟩:=uY ho
     exact .inr (.inl ⟨x,y,v,h',hb,rfl,e2,e1⟩)
    ·obtain⟨v,h',e1,e2⟩:=uY ho
     exact .inr (.inr (.inl ⟨x,y,v,h',hb,rfl,e2,e1⟩))
    ·split at ho
     ·rename_i t ht
      obtain⟨v,h',e1,e2⟩:=uY ho
      exact .inr (.inr (.inr (.inl ⟨x,y,t,v,h',hb,rfl,e2,ht,e1⟩)))
     ·cases ho
    iterate 2
     ·exact .inl (sU _ _ ho)
    ·cases ho
   ·cases ho
  ·rename_i f hf
   split at ho
   ·rename_i fv hfv
    unfold Qj at ho
    split at ho
    ·rename_i g a b
     unfold Qi at ho
     split at ho
     ·exact .inl (anP _ _ _ ho)
     ·rename_i hg
      cases ho
      exact .inr (.inr (.inr (.inr (.inl ⟨f,g,a,b,hf,hfv,hg,rfl⟩))))
    ·rename_i l
     cases ho
     exact .inr (.inr (.inr (.inr (.inr ⟨f,l,hf,hfv,rfl⟩))))
    ·cases ho
   ·cases ho
  ·cases ho
omit O in
theorem aag{c:Call}{k:gz}{b:MB}(ho:wE E ev c h=some (.new k b)):False:=by
 obtain⟨args,-,⟨v,e⟩|⟨x,y,v,h',-,-,e,-⟩|⟨x,y,v,h',-,-,e,-⟩|⟨x,y,t,v,h',-,-,e,-⟩|⟨f,g,a,b,-,-,-,e⟩|⟨f,l,-,-,e⟩⟩:=KL ho<;>cases e
omit O in
theorem mJ{o:Option MR}{k:gz}{b:MB}(hv:fV o)(ho:o=some (.new k b)):False:=by
 obtain⟨v,e⟩:=hv _ ho;cases e
omit O in
theorem nK{o:Option MR}{v:MV}{h':MH}(hv:fV o)(ho:o=some (.upd v h')):False:=by
 obtain⟨v,e⟩:=hv _ ho;cases e
omit O in
theorem F8{s d:TypeId}{x:Operand}{r:MR}(ho:zO E ev s d x h=some r):(∃v,r=.val v)∨
  (∃S D e T b,dG E s=some S∧dG E d=some D∧S.und=.string∧D.und=.slice e∧dG E e=some T∧isByte T=true∧ev x=some (.str b)∧
   r=.upd (.bU h.nx 0 0 (eH b 0)) (h.new (.cells (ofBytes b) e 1 true)))∨
  ∃S D e' e T xv,dG E s=some S∧dG E d=some D∧S.und=.slice e'∧D.und=.slice e∧dG E e=some T∧isByte T=true∧s=d∧ev x=some xv∧JH E h xv=some r:=by
 unfold zO at ho
 split at ho
 ·rename_i xv hx
  split at ho
  ·cases ho;exact .inl ⟨_,rfl⟩
  rename_i hu
  clear hu
  unfold Qb at ho
  split at ho
  ·rename_i S D hS hD
   split at ho
   iterate 2
    ·split at ho
     ·cases ho;exact .inl ⟨_,rfl⟩
     ·cases ho
   ·rename_i e b hd
    split at ho
    ·rename_i T hs hT
     cases hb:isByte T with
     |false=>rw[hb]at ho;cases ho
     |true=>
      rw[hb]at ho
      cases ho
      exact .inr (.inl ⟨S,D,e,T,b,hS,hD,hs,hd,hT,hb,hx,rfl⟩)
    ·cases ho
   ·split at ho
    ·split at ho
     ·rename_i T hT
      cases hb:isByte T with
      |false=>rw[hb]at ho;cases ho
      |true=>
       rw[hb]at ho
       simp only[cond_true]at ho
       split at ho
       ·split at ho
        ·cases ho;exact .inl ⟨_,rfl⟩
        ·cases ho
       ·cases ho
     ·cases ho
    ·cases ho
   ·rename_i e hd _
    split at ho
    ·rename_i e' T hs hT
     cases hb:and (Nat.beq s d) (isByte T)with
     |false=>rw[hb]at ho;cases ho
     |true=>
      rw[hb]at ho
      obtain⟨b1,b2⟩:=jX hb
      exact .inr (.inr ⟨S,D,e',e,T,_,hS,hD,hs,hd,hT,b2,Nat.eq_of_beq_eq_true b1,hx,ho⟩)
    ·cases ho
   ·cases ho
  ·cases ho
 ·cases ho
omit O in
theorem F9{o:Option (gz×MB)}{k:gz}{b:MB}(ho:nJ o=some (.new k b)):o=some (k,b):=by
 unfold nJ at ho;split at ho<;>cases ho;rfl
theorem QV(hE:bM E P)(hev:eP σ V ev ρ)(o:Oper){k:gz}{b:MB}(ho:eY E ev o.op h=some (.new k b)){id:Nat}(hid:¬V id)(w:World) :
  ∃obj,(execOp ρ o).run P w=.ok (.value (af (upd σ id ⟨w.heap.size,0,0⟩) (k.at id))) (w.alloc obj)∧
   jP (upd σ id ⟨w.heap.size,0,0⟩) (iy V id) id (w.alloc obj) b∧wf (upd σ id ⟨w.heap.size,0,0⟩) (iy V id) (k.at id):=by
 have Gf:iy V id id:=.inr rfl
 cases hop:o.op<;>rw[hop]at ho<;>simp only[eY]at ho<;>first|(cases ho;done)|skip
 case alloc t=>
  have ho:=F9 ho
  unfold ZB at ho
  split at ho
  ·rename_i T hT
   split at ho
   ·rename_i z hz
    cases ho
    obtain⟨m,m1,m2,m3,m4,-⟩:=zZ (σ:=σ) (V:=V) hE hT hz
    refine⟨.cells ⟨aH σ z⟩ t,?_,Ku m3 m4 hid w,Gf⟩
    unfold execOp
    simp only[hop]
    refine fM ?_
    unfold Instr.alloc newVar
    rw[Sem.bind_ok (m1 w),m2]
    refine(Sem.bind_ok (yz t _ w)).trans ?_
    simp only[gz.at,af,upd_same]
    rfl
   ·cases ho
  ·cases ho
 case box t x=>
  have ho:=F9 ho
  unfold Qk at ho
  split at ho
  ·rename_i T v hT hx
   cases hc:ones v.cells with
   |false=>rw[hc]at ho;cases ho
   |true=>
    rw[hc]at ho
    cases ho
    obtain⟨h1,h2⟩:=hev x v hx
    refine⟨.cells ⟨aH σ v.cells⟩ t,?_,Ku (J3 h1) hc hid w,Gf⟩
    unfold execOp
    simp only[hop]
    refine fM ?_
    unfold Instr.box newVar
    rw[h2,FQ]
    refine(Sem.bind_ok (yz t _ w)).trans ?_
    simp only[gz.at,af,upd_same]
    rfl
  ·cases ho
 case buildSlice t len parts=>
  have ho:=F9 ho
  unfold Ql at ho
  split at ho
  ·cases ho
  ·rename_i T hT
   have hu:=(hE.ty t T hT).2
   split at ho
   ·rename_i e hd
    rw[hd]at hu
    split at ho
    ·cases ho
    ·rename_i Te hTe
     split at ho
     ·cases ho
     ·rename_i z hz
      cases hc:Nat.ble (Nat.mul len Te.info.size) 65536 with
      |false=>rw[hc]at ho;cases ho
      |true=>
       rw[hc]at ho
       simp only[cond_true]at ho
       have hc:=Nat.le_of_ble_eq_true hc
       simp only[Nat.mul_eq]at hc
       split at ho
       ·rename_i r hr
        cases ho
        obtain⟨m,m1,m2,m3,m4,m5⟩:=zZ (σ:=σ) (V:=V) hE hTe hz
        rw[Dc]at hr
        obtain⟨r1,r2,r3⟩:=QO hev _ _ _ _ (QS m3) (QU m4) hr
        refine⟨.cells ⟨aH σ r⟩ e,?_,Ku r1 r2 hid w,⟨Gf,Nat.le_refl _⟩⟩
        unfold execOp
        simp only[hop]
        refine fM ?_
        unfold Instr.buildSlice
        rw[Sem.bind_ok (dE hu w)]
        simp only[]
        rw[Sem.bind_ok (wH (hE.ty e Te hTe).1 w)]
        rw[if_neg (by omega)]
        have hpm:(parts.map fun(i,x)=>(i,ρ x)).toList=parts.toList.map fun p=>(p.1,ρ p.2):=by simp
        have hpl:(fun i=>some (i*Te.info.size,Te.info.size))=JS Te.info.size:=by funext i;rfl
        by_cases h0:len*Te.info.size=0
        ·rw[if_pos h0]
         simp only[pure_bind]
         rw[aad m5 h0,hpm,hpl,r3]
         refine(Sem.bind_ok (yz e _ w)).trans ?_
         simp only[gz.at,af,upd_same]
         rfl
        ·rw[if_neg h0]
         rw[Sem.bind_ok (m1 w),m2]
         simp only[pure_bind]
         rw[Kv m5,hpm,hpl,r3]
         refine(Sem.bind_ok (yz e _ w)).trans ?_
         simp only[gz.at,af,upd_same]
         rfl
       ·cases ho
   ·cases ho
 case makeMap t r=>
  have ho:=F9 ho
  have fin:∀s:Sem Value,s.run P w=.ok (.map (some w.heap.size)) (w.alloc (.map #[] 0))→k=.mp→b=.map [] 0→
    (do pure (.value (←s)):Sem Next).run P w=.ok (.value (af (upd σ id ⟨w.heap.size,0,0⟩) (k.at id))) (w.alloc (.map #[] 0))∧
    jP (upd σ id ⟨w.heap.size,0,0⟩) (iy V id) id (w.alloc (.map #[] 0)) b∧wf (upd σ id ⟨w.heap.size,0,0⟩) (iy V id) (k.at id):=by
   rintro s hs rfl rfl
   refine⟨?_,⟨?_,by simp⟩,Gf⟩
   ·rw[fM hs];simp only[gz.at,af,upd_same]
   ·rw[upd_same];exact uV w _
  refine⟨.map #[] 0,?_⟩
  unfold execOp
  simp only[hop]
  unfold Qn at ho
  split at ho
  ·cases ho
   exact fin _ rfl rfl rfl
  ·split at ho
   ·rename_i kk n p hx hk
    cases ho
    refine fin _ ?_ rfl rfl
    obtain⟨kt,u1,-,-⟩:=Kq hE hk
    unfold Instr.makeMap
    simp only[Option.map_some,(hev _ _ hx).2,af]
    rw[Sem.bind_ok (dE u1 w)]
    rfl
   ·cases ho
 case makeSlice t l c=>
  have ho:=F9 ho
  unfold Qo at ho
  split at ho
  ·rename_i T ln cn hT hl hcn
   have hu:=(hE.ty t T hT).2
   obtain⟨kl,e1⟩:=J5 hev hl
   obtain⟨kc,e2⟩:=J5 hev hcn
   split at ho
   ·rename_i e hd
    rw[hd]at hu
    split at ho
    ·rename_i Te hTe
     obtain⟨ti,-⟩:=hE.ty e Te hTe
     split at ho
     ·rename_i z hz
      cases hc:(and (Nat.ble ln cn) (and (Nat.ble cn 1048576) (Nat.ble Te.info.bytes 65536)))with
      |false=>rw[hc]at ho;cases ho
      |true=>
       rw[hc]at ho
       cases ho
       obtain⟨c1,c2⟩:=jX hc
       obtain⟨c2,c3⟩:=jX c2
       have c1:=Nat.le_of_ble_eq_true c1
       have c2:=Nat.le_of_ble_eq_true c2
       have c3:=Nat.le_of_ble_eq_true c3
       obtain⟨m,m1,m2,m3,m4,m5⟩:=zZ (σ:=σ) (V:=V) hE hTe hz
       rw[Dc]
       refine⟨.cells ⟨aH σ (List.replicate cn z).flatten⟩ e,?_,Ku (QS m3) (QU m4) hid w,⟨Gf,c1⟩⟩
       unfold execOp
       simp only[hop]
       refine fM ?_
       unfold Instr.makeSlice
       rw[Sem.bind_ok (dE hu w),e1,e2]
       simp only[asInt,asIntOf,pure_bind]
       rw[Sem.bind_ok (FV ti w)]
       have w1:IntKind.i64.wrap (Int.ofNat ln)=(ln:Int):=wrap_small (by omega)
       have w2:IntKind.i64.wrap (Int.ofNat cn)=(cn:Int):=wrap_small (by omega)
       have hb:Te.info.bytes*cn≤65536*1048576:=Nat.mul_le_mul c3 c2
       simp only[w1,w2]
       rw[if_neg (by
        simp only[Bool.or_eq_true,decide_eq_true_eq,not_or]
        refine⟨⟨⟨by omega,?_⟩,by omega⟩,by omega⟩
        have:((Te.info.bytes:Int)*(cn:Int))=((Te.info.bytes*cn:Nat):Int):=by simp
        rw[this]
        omega)]
       rw[Sem.bind_ok (run_askRoom (P:=P) (w:=w) _)]
       rw[Sem.bind_ok (wH ti w)]
       rw[Int.toNat_natCast]
       by_cases h0:cn*Te.info.size=0
       ·rw[if_pos h0]
        rw[aad m5 h0]
        refine(Sem.bind_ok (yz e _ w)).trans ?_
        simp only[gz.at,af,upd_same]
        rfl
       ·rw[if_neg h0]
        rw[Sem.bind_ok (m1 w),m2]
        rw[Kv m5]
        refine(Sem.bind_ok (yz e _ w)).trans ?_
        simp only[gz.at,af,upd_same]
        rfl
     ·cases ho
    ·cases ho
   ·cases ho
  ·cases ho
 case call c=>exact(aag ho).elim
 all_goals first|exact(aae ho).elim|exact(aaf ho).elim|skip
 case pick=>exact(mJ (Kw _ _ _) ho).elim
 case build=>exact(mJ (Ky _ _) ho).elim
 case load=>exact(mJ (F6 _ _) ho).elim
 case nilCheck=>exact(mJ (Kz _) ho).elim
 case binOp=>exact(mJ (KA _ _ _ _) ho).elim
 case unOp=>exact(mJ (KC _ _) ho).elim
 case convert=>
  rcases F8 ho with⟨v,e⟩|⟨S,D,e,T,b,-,-,-,-,-,-,-,e⟩|⟨S,D,e1,e2,T,xv,-,-,-,-,-,-,-,-,hm⟩<;>first|cases e|(obtain⟨_,_,_,_,_,_,_,_,-,-,-,e⟩:=Dj hm;cases e)
 case makeFunc=>exact(mJ (KD _ _ _) ho).elim
 case slice=>exact(mJ (KE _ _ _ _ _) ho).elim
 case fieldAddr=>exact(mJ (KF _ _ _) ho).elim
 case field=>exact(mJ (KG _ _ _) ho).elim
 case indexAddr=>exact(mJ (KH _ _ _) ho).elim
 case index=>exact(mJ (KI _ _ _) ho).elim
 case lookup=>exact(mJ (F7 _ _ _ _) ho).elim
 case extract=>exact(mJ (KJ _ _) ho).elim
end ops
end Go.aY
namespace Go.aY
variable [O:dO]
open Go.RowKit
def gm(G:GB)(B:Nat→Prop)(W0:World)(σ:Sg)(V:Nat→Prop)(h h':MH)(K:Sg→(Nat→Prop)→World→Prop):Prop:=
 ∃σ' V' w',dI V σ σ'∧(∀id,V id→V' id)∧(∀id,V' id→V id∨h.nx≤id)∧h.nx≤h'.nx∧Rel G B W0 σ' V' h' w'∧K σ' V' w'
theorem gm.mono{G:GB}{B:Nat→Prop}{W0:World}{σ:Sg}{V:Nat→Prop}{h h':MH}{K K':Sg→(Nat→Prop)→World→Prop}(hs:gm G B W0 σ V h h' K)
  (hk:∀σ' V' w',dI V σ σ'→(∀id,V id→V' id)→K σ' V' w'→K' σ' V' w'):gm G B W0 σ V h h' K':=by
 obtain⟨σ',V',w',h1,h2,h3,h4,h5,h6⟩:=hs
 exact⟨σ',V',w',h1,h2,h3,h4,h5,hk _ _ _ h1 h2 h6⟩
omit O in
theorem dI.refl(V:Nat→Prop)(σ:Sg):dI V σ σ:=fun _ _=>rfl
omit O in
theorem dI.trans{V V':Nat→Prop}{σ σ' aah:Sg}(h:dI V σ σ')(hV:∀id,V id→V' id)(h':dI V' σ' aah):dI V σ aah:=fun id hid=>(h' id (hV id hid)).trans (h id hid)
section ops
variable {E:Env} {P:Program} {B:Nat→Prop} {W0:World} {σ:Sg} {V:Nat→Prop} {h:MH} {w:World} {ev:Ev} {ρ:Operand→Value}
theorem gm.same{h':MH}{w':World}{K:Sg→(Nat→Prop)→World→Prop}(hn:h'.nx=h.nx)(R:Rel E.G B W0 σ V h' w')(hk:K σ V w'):gm E.G B W0 σ V h h' K:=
 ⟨σ,V,w',dI.refl _ _,fun _ hx=>hx,fun _ hx=>.inl hx,Nat.le_of_eq hn.symm,R,hk⟩
theorem gm.new(R:Rel E.G B W0 σ V h w)(hW:∀k,B k→k<W0.heap.size){b:MB}{o:Obj}(off cap:Nat){K:Sg→(Nat→Prop)→World→Prop}
  (hb:jP (upd σ h.nx ⟨w.heap.size,off,cap⟩) (iy V h.nx) h.nx (w.alloc o) b) (hk:K (upd σ h.nx ⟨w.heap.size,off,cap⟩) (iy V h.nx) (w.alloc o)):gm E.G B W0 σ V h (h.new b) K:=
 ⟨_,_,_,qJ _ _ (fun hv=>Nat.lt_irrefl _ (R.vx _ hv)),fun _ hx=>.inl hx,fun _ hx=>hx.imp (fun x=>x) (fun e=>Nat.le_of_eq e.symm),Nat.le_succ _,R.alloc (R.size hW) off cap hb,hk⟩
abbrev Gg(P:Program)(ρ:Operand→Value)(o:Oper)(w:World)(v:MV):Sg→(Nat→Prop)→World→Prop:=
 fun σ' V' w'=>wf σ' V' v∧((execOp ρ o).run P w=.ok (.value (af σ' v)) w'∨(v=jM∧(execOp ρ o).run P w=.ok .skip w'))
omit O in
theorem Ad:wf σ V jM:=by simp only[jM,wf,wfs]
theorem anQ(hE:bM E P)(R:Rel E.G B W0 σ V h w)(hev:eP σ V ev ρ){o:Oper}{t:TypeId}{x y:Operand}(hop:o.op=.store t x y){v:MV}{h':MH}
  (ho:JU E ev t x y h=some (v,h')):gm E.G B W0 σ V h h' (Gg P ρ o w v):=by
 unfold JU at ho
 split at ho
 ·rename_i T id off u hT hx hy
  obtain⟨x1,x2⟩:=hev x _ hx
  obtain⟨y1,y2⟩:=hev y _ hy
  simp only[wf]at x1
  cases hc:Nat.beq (eH u.cells 0) T.info.size with
  |false=>rw[hc]at ho;cases ho
  |true=>
   rw[hc]at ho
   simp only[cond_true]at ho
   have hc:=Nat.eq_of_beq_eq_true hc
   rw[lH]at hc
   simp only[Nat.add_zero]at hc
   split at ho
   ·rename_i h1 hw
    cases ho
    obtain⟨w',r1,r2,r3⟩:=QR (P:=P) R x1 (J3 y1) hw
    refine gm.same r3 r1 ⟨Ad,.inr ⟨rfl,?_⟩⟩
    unfold execOp
    simp only[hop]
    refine QQ ?_
    unfold Instr.storeAt
    rw[x2,y2]
    simp only[af,Instr.sureAddr,pure_bind]
    unfold storeVar
    rw[Sem.bind_ok (wH (hE.ty t T hT).1 w)]
    have hsz:(af σ u).cells.size=T.info.size:=by rw[FQ,dZ];simp[hc]
    rw[if_neg (by simp[hsz]),FQ]
    exact r2
   ·cases ho
 ·cases ho
omit O in
theorem anR(w:World)(c:Array Value)(e:TypeId)(n:Nat):(w.alloc (.cells c e)).freeze ⟨w.heap.size,n,none⟩ 1=w.alloc (.cells c e (n,n+1)):=by
 unfold World.freeze
 rw[if_neg (by omega)]
 show({w with heap:=_}:World)={w with heap:=_}
 congr 1
 show(w.heap.push (.cells c e)).modify w.heap.size _=w.heap.push _
 apply Array.ext_getElem?
 intro i
 rw[Array.getElem?_modify]
 by_cases hi:w.heap.size=i
 ·subst hi
  rw[if_pos rfl]
  simp
 ·rw[if_neg hi]
  rcases Nat.lt_or_gt_of_ne hi with hlt|hgt
  ·rw[Array.getElem?_eq_none (by simp;omega),Array.getElem?_eq_none (by simp;omega)]
  ·rw[Array.getElem?_push_lt hgt,Array.getElem?_push_lt hgt]
omit O in
theorem anS{w:World}{b:Nat}{c:Array Value}{t:TypeId}{fz:Nat×Nat}(h:w.heap[b]?=some (.cells c t fz))(hf:fz.1=fz.2∨c.size≤fz.1) :
  ∃fz':Nat×Nat,w.freeze ⟨b,c.size,none⟩ 1=w.putObj b (.cells c t fz')∧c.size≤fz'.1:=by
 obtain⟨lo,hi⟩:=fz
 refine⟨if lo == hi then(c.size,c.size+1)else(min lo c.size,max hi (c.size+1)),?_,?_⟩
 ·unfold World.freeze World.putObj
  rw[if_neg (by decide)]
  congr 1
  apply Array.ext_getElem?
  intro i
  rw[Array.getElem?_modify]
  by_cases hi:b=i
  ·subst hi
   have hlt:=(Array.getElem?_eq_some_iff.1 h).1
   rw[if_pos rfl,h]
   simp[hlt]
  ·rw[if_neg hi,Array.getElem?_setIfInBounds_ne hi]
 ·dsimp only at hf
  split
  ·exact Nat.le_refl _
  ·rename_i hne
   have:lo≠hi:=by simpa using hne
   show c.size≤min lo c.size
   omega
theorem anT(hE:bM E P)(R:Rel E.G B W0 σ V h w)(hW:∀k,B k→k<W0.heap.size)(hev:eP σ V ev ρ){o:Oper}{s d:TypeId}{x:Operand}(hop:o.op=.convert s d x){v:MV}{h':MH}
  (ho:zO E ev s d x h=some (.upd v h')):gm E.G B W0 σ V h h' (Gg P ρ o w v):=by
 rcases F8 ho with⟨u,e⟩|⟨S,D,e,T,b,hS,hD,hs,hd,hT,hb,hx,hr⟩|⟨S,D,e',e,T,xv,hS,hD,hs,hd,hT,hb,rfl,hx,hm⟩
 rotate_right
 ·obtain⟨id,off,len,cap,cs,t,es,op,rfl,hg,hro,e⟩:=Dj hm
  cases e
  obtain⟨x1,x2⟩:=hev x _ hx
  simp only[wf]at x1
  have uS:=(hE.ty s S hS).2
  have ue:=(hE.ty e T hT).2
  have uD:=(hE.ty s D hD).2
  rw[QL hb]at ue
  rw[hs]at uS
  rw[hd]at uD
  obtain⟨c,fz,k1,k2,k3,k4,k5,k6⟩:=R.blk id _ x1.1 hg
  obtain⟨fz',hf1,hf2⟩:∃fz':Nat×Nat,w.freeze ⟨(σ id).blk,c.size,none⟩ 1=w.putObj (σ id).blk (.cells c t fz')∧c.size≤fz'.1:=anS k1 k6
  have hsz:(σ id).blk<w.heap.size:=(Array.getElem?_eq_some_iff.1 k1).1
  have hblk:jP σ V id (w.putObj (σ id).blk (.cells c t fz')) (.cells cs t es op):=by
   refine⟨c,fz',?_,k2,k3,k4,k5,.inr hf2⟩
   simp[World.putObj,hsz]
  refine gm.same rfl (R.write x1.1 hg rfl hro _ hblk) ⟨by simp only[wf];exact x1,.inl ?_⟩
  unfold execOp
  simp only[hop]
  refine fM ?_
  rw[x2]
  unfold convert
  rw[Sem.bind_ok (dE uS w),Sem.bind_ok (dE uD w)]
  simp only[af]
  have hms:(markStringish ⟨(σ id).blk,(σ id).off+off,none⟩).run P w=.ok () (w.putObj (σ id).blk (.cells c t fz')):=by
   unfold markStringish
   rw[Sem.bind_ok (run_shape (P:=P) (w:=w) _)]
   have:w.shape? (σ id).blk=some (t,c.size):=by
    unfold World.shape?;rw[k1]
   rw[this]
   simp only[run_freeze]
   rw[hf1]
  rw[Sem.bind_ok (dE ue w)]
  rw[beq_self_eq_true]
  simp only[]
  rw[Sem.bind_ok hms]
  rfl
 ·cases e
 ·cases hr
  obtain⟨x1,x2⟩:=hev x _ hx
  simp only[wf]at x1
  have uS:=(hE.ty s S hS).2
  have uD:=(hE.ty d D hD).2
  have ue:=(hE.ty e T hT).2
  rw[QL hb]at ue
  rw[hs]at uS
  rw[hd]at uD
  have kK:¬V h.nx:=fun hv=>Nat.lt_irrefl _ (R.vx _ hv)
  obtain⟨cap,hcap,wd,hwd,hch⟩:∃cap,b.length≤cap∧∃wd,(wd=w∨wd=w.drew)∧(choose (.appendCap (bytesV b).size 0 e)).run P w=.ok cap wd:=by
   refine⟨(bytesV b).size+w.tape w.drawn (.appendCap (bytesV b).size 0 e) % (2 ^ 63-(bytesV b).size),by rw[wI];omega,w.drew,.inr rfl,?_⟩
   rw[run_choose_drew]
   simp[Question.forced,Question.cut]
  have hRd:Rel E.G B W0 σ V h wd:=by rcases hwd with rfl|rfl;exact R;exact R.drew
  let cells:List Value:=b.map (fun(n:Nat)=>Value.int .u8 (n:Int))++List.replicate (cap-b.length) (.int .u8 0)
  have hcl:cells.length=cap:=by simp[cells];omega
  let obj:Obj:=.cells ⟨cells⟩ e (cap,cap+1)
  have hblk:jP (upd σ h.nx ⟨wd.heap.size,0,cap⟩) (iy V h.nx) h.nx (wd.alloc obj) (.cells (ofBytes b) e 1 true):=by
   have hob:∀l:List Nat,ofBytes l=l.map (fun n=>MV.int .u8 (.ofNat n)):=by
    intro l;induction l with
    |nil=>rfl
    |cons a l ih=>exact congrArg (MV.int .u8 (.ofNat a)::·) ih
   refine⟨⟨cells⟩,(cap,cap+1),by rw[upd_same];exact uV wd _,?_,?_,?_,?_,?_⟩
   ·rw[hob,je];intro u hu;obtain⟨n,-,rfl⟩:=List.mem_map.1 hu;trivial
   ·rw[hob,jO];intro u hu;obtain⟨n,-,rfl⟩:=List.mem_map.1 hu;rfl
   ·intro i u hi
    rw[hob,List.getElem?_map]at hi
    rw[upd_same]
    cases hbi:b[i]? with
    |none=>rw[hbi]at hi;cases hi
    |some n=>
     rw[hbi]at hi;cases hi
     have hlt:i<b.length:=(List.getElem?_eq_some_iff.1 hbi).1
     simp only[Nat.zero_add,List.getElem?_toArray,cells]
     rw[List.getElem?_append_left (by simpa using hlt),List.getElem?_map,hbi]
     rfl
   ·intro _;rw[upd_same];simp[hcl]
   ·exact .inr (by simp[hcl])
  refine gm.new hRd hW 0 cap hblk ⟨?_,.inl ?_⟩
  ·simp only[wf,upd_same,lH]
   exact⟨.inr rfl,by omega⟩
  ·unfold execOp
   simp only[hop]
   refine fM ?_
   rw[x2]
   unfold convert
   rw[Sem.bind_ok (dE uS w),Sem.bind_ok (dE uD w)]
   simp only[af]
   rw[Sem.bind_ok (dE ue w)]
   simp only[]
   unfold Conv.stringToBytes
   rw[Sem.bind_ok hch]
   have hel:((bytesV b).data.map fun x=>Value.int .u8 x.toNat)++Array.replicate (cap-(bytesV b).size) (.int .u8 0)=⟨cells⟩:=by
    rw[wI,←Array.toList_inj]
    simp only[bytesV,Array.toList_append,Array.toList_map,List.map_map,Array.toList_replicate,cells]
    congr 1
    apply List.map_congr_left
    intro n hn
    have:=x1 n hn
    simp
    omega
   dsimp only
   rw[hel]
   refine(Sem.bind_ok (yz e _ wd)).trans ?_
   have hms:(markStringish ⟨wd.heap.size,0,none⟩).run P (wd.alloc (.cells ⟨cells⟩ e))=.ok () (wd.alloc obj):=by
    unfold markStringish
    rw[Sem.bind_ok (run_shape (P:=P) (w:=wd.alloc (.cells ⟨cells⟩ e)) _)]
    have:(wd.alloc (.cells ⟨cells⟩ e)).shape? wd.heap.size=some (e,cap):=by
     unfold World.shape?;rw[uV];simp[hcl]
    rw[this]
    simp only[run_freeze]
    rw[anR]
   rw[Sem.bind_ok hms]
   simp only[Sem.run_pure,upd_same,wI,lH,Nat.add_zero,Nat.sub_zero]
theorem anV(hE:bM E P)(R:Rel E.G B W0 σ V h w)(hW:∀k,B k→k<W0.heap.size)(hev:eP σ V ev ρ){o:Oper}{t:TypeId}{x:Operand}(hop:o.op=.range t x){v:MV}{h':MH}
  (ho:JV E ev t x h=some (v,h')):gm E.G B W0 σ V h h' (Gg P ρ o w v):=by
 unfold JV at ho
 split at ho
 ·rename_i xv hx
  obtain⟨x1,x2⟩:=hev x _ hx
  unfold ZA at ho
  split at ho
  ·rename_i T hT
   have hu:=(hE.ty t T hT).2
   split at ho
   ·rename_i kt el hd
    cases ho
    rw[hd]at hu
    refine gm.new (o:=.mapIter none 0 #[] 0) R hW 0 0 ⟨?_,by rw[upd_same],fun i hi=>by cases hi⟩ ⟨.inr rfl,.inl ?_⟩
    ·rw[upd_same];exact uV w _
    ·unfold execOp
     simp only[hop]
     refine fM ?_
     rw[x2]
     unfold Instr.range
     simp only[af,upd_same]
     rw[Sem.bind_ok (dE hu w)]
     rfl
   ·rename_i kt el id hd
    rw[hd]at hu
    simp only[wf]at x1
    split at ho
    ·rename_i es c hg
     cases ho
     obtain⟨b1,b2⟩:=R.blk id _ x1 hg
     have hne:id≠h.nx:=fun e=>Nat.lt_irrefl _ (e▸R.vx id x1)
     refine gm.new (o:=.mapIter (some (σ id).blk) c #[] c) R hW 0 0 ⟨?_,by rw[upd_same],fun i hi=>by cases hi;exact .inl x1⟩ ⟨.inr rfl,.inl ?_⟩
     ·rw[upd_same]
      refine(uV w _).trans ?_
      simp only[Option.map_some,upd_ne σ _ hne]
     ·unfold execOp
      simp only[hop]
      refine fM ?_
      rw[x2]
      unfold Instr.range
      simp only[af,upd_same]
      rw[Sem.bind_ok (dE hu w)]
      simp only[]
      rw[Sem.bind_ok (wJ b1)]
      rfl
    ·cases ho
   ·cases ho
  ·cases ho
 ·cases ho
omit O in
theorem QW{r:Nat}{m:Option Nat}{s c:Nat}{seen:Array Nat}(hb:w.heap[r]?=some (.mapIter m s seen c)):(getObj r).run P w=.ok (.mapIter m s seen c) w:=by
 simp[getObj,Sem.run,hb]
omit O in
theorem anW{r:Nat}{m:Option Nat}{s c:Nat}{seen:Array Nat}(o:Obj)(hb:w.heap[r]?=some (.mapIter m s seen c)):(setObj r o).run P w=.ok () (w.putObj r o):=by
 simp[setObj,Sem.run,hb,World.putObj]
omit O in
theorem KN{r:Nat}{es:Array MapEntry}{c:Nat}(o:Obj)(hb:w.heap[r]?=some (.map es c)):(setObj r o).run P w=.ok () (w.putObj r o):=by
 simp[setObj,Sem.run,hb,World.putObj]
omit O in
theorem anX(n:Nat)(l:List Nat):JP n l=!(l.contains n):=by
 induction l with
 |nil=>rfl
 |cons a l ih=>
  show(Bool.rec (JP n l) false (Nat.beq n a):Bool)=_
  cases hb:Nat.beq n a with
  |true=>have:=Nat.eq_of_beq_eq_true hb;subst this;simp
  |false=>
   have hne:n≠a:=fun e=>by subst e;rw[Nat.beq_refl]at hb;cases hb
   simp[ih,hne]
omit O in
theorem aai(seen:List Nat)(l:List ME):leftOf seen l=l.filter fun e=>!(seen.contains e.born):=by
 induction l with
 |nil=>rfl
 |cons e l ih=>
  show(Bool.rec (leftOf seen l) (e::leftOf seen l) (JP e.born seen):List ME)=_
  rw[anX,ih,List.filter_cons]
  cases (!(seen.contains e.born))<;>rfl
omit O in
theorem anY:((if(#[]:Array MapEntry).isEmpty=true then #[none]else #[])++Array.map some ((#[]:Array MapEntry)++#[]):Array (Option MapEntry))=#[none]:=by simp
omit O in
theorem anZ(x:MapEntry):((if(#[x]:Array MapEntry).isEmpty=true then #[none]else #[])++Array.map some ((#[x]:Array MapEntry)++#[]):Array (Option MapEntry))=#[some x]:=by simp
theorem an0(R:Rel E.G B W0 σ V h w)(hev:eP σ V ev ρ){o:Oper}{it:Operand}{s:Bool}(hop:o.op=.next it s){v:MV}{h':MH}
  (ho:JW E ev it s h=some (v,h')):gm E.G B W0 σ V h h' (Gg P ρ o w v):=by
 unfold JW at ho
 split at ho
 ·rename_i iv hi
  obtain⟨x1,x2⟩:=hev it _ hi
  unfold Zy at ho
  split at ho
  ·rename_i r
   simp only[wf]at x1
   cases hc:(or s (Nat.blt r E.G.ro))with
   |true=>rw[hc]at ho;cases ho
   |false=>
    rw[hc]at ho
    simp only[cond_false]at ho
    simp only[Bool.or_eq_false_iff]at hc
    obtain⟨hs,hG⟩:=hc
    subst hs
    have hG:E.G.ro≤r:=by
     rcases Nat.lt_or_ge r E.G.ro with hlt|hge
     ·rw[FZ hlt]at hG;cases hG
     ·exact hge
    split at ho
    ·rename_i since seen st hg
     cases ho
     obtain⟨b1,b2,-⟩:=R.blk r _ x1 hg
     refine gm.same rfl R ⟨by simp only[wf,wfs];exact⟨trivial,trivial⟩,.inl ?_⟩
     unfold execOp
     simp only[hop]
     refine fM ?_
     rw[x2]
     unfold Instr.next
     simp only[af,b2]
     rw[Sem.bind_ok (QW b1)]
     rfl
    ·rename_i m since seen last hg
     split at ho
     ·rename_i es clock hm
      obtain⟨b1,b2,b3⟩:=R.blk r _ x1 hg
      simp only[Option.map_some]at b1
      have hVm:=b3 m rfl
      obtain⟨m1,m2⟩:=R.blk m _ hVm hm
      unfold Zx at ho
      cases hq:(and (not seen.isEmpty) (and (not es.isEmpty) (es.all fun e=>Nat.ble last e.born)))with
      |true=>rw[hq]at ho;cases ho
      |false=>
       rw[hq]at ho
       simp only[cond_false]at ho
       have hfil:(((⟨es.map (eF σ)⟩:Array MapEntry).filter fun e=>!(⟨seen⟩:Array Nat).contains e.born))=⟨(leftOf seen es).map (eF σ)⟩:=by
        rw[aai,←Array.toList_inj]
        simp only[Array.toList_filter,List.filter_map]
        congr 1
        apply List.filter_congr
        intro e _
        rw[Bool.eq_iff_iff]
        simp[eF]
        exact decide_eq_false_iff_not
       have hq':((!(⟨seen⟩:Array Nat).isEmpty&&!(⟨es.map (eF σ)⟩:Array MapEntry).isEmpty&&(⟨es.map (eF σ)⟩:Array MapEntry).all fun e=>decide (e.born≥last))=true)↔False:=by
        rw[iff_false,Bool.not_eq_true,←hq]
        rw[Bool.and_assoc]
        congr 1
        ·simp
        ·congr 1
         ·simp
         ·rw[←Array.all_toList]
          simp only[List.all_map]
          congr 1
          funext e
          simp only[Function.comp,eF]
          rw[Bool.eq_iff_iff]
          exact⟨fun h=>Nat.ble_eq_true_of_le (of_decide_eq_true h),fun h=>decide_eq_true (Nat.le_of_ble_eq_true h)⟩
       split at ho
       ·rename_i hl
        cases ho
        refine gm.same rfl R ⟨by simp only[wf,wfs];exact⟨trivial,trivial⟩,.inl ?_⟩
        unfold execOp
        simp only[hop]
        refine fM ?_
        rw[x2]
        unfold Instr.next
        simp only[af,b2]
        rw[Sem.bind_ok (QW b1)]
        dsimp only
        rw[Sem.bind_ok (wJ m1)]
        dsimp only
        rw[if_neg (fun h=>hq'.1 h),hfil,hl]
        have hch:(choose (.mapNext 1)).run P w=.ok 0 w:=rfl
        have f0:∀p:MapEntry→Bool,Array.filter p ⟨([]:List ME).map (eF σ)⟩=#[]:=fun p=>by simp
        rw[f0,f0,anY]
        refine(Sem.bind_ok (a:=0) (w':=w) hch).trans ?_
        rfl
       ·rename_i e hl
        cases hbs:Nat.blt e.born since with
        |false=>rw[hbs]at ho;cases ho
        |true=>
         rw[hbs]at ho
         cases ho
         have hbs:=sS hbs
         have he:e∈es:=by
          have:e∈leftOf seen es:=by rw[hl];simp
          rw[aai]at this
          exact(List.mem_filter.1 this).1
         have hwe:=m2 e he
         obtain⟨g1,g2⟩:Rel E.G B W0 σ V (h.set r (.iter (some m) since (seen++[e.born]) clock)) (w.putObj (σ r).blk (.mapIter (some (σ m).blk) since ((⟨seen⟩:Array Nat).push e.born) clock))∧True:=by
          refine⟨R.write x1 hg rfl hG _ ⟨?_,b2,fun i hi=>by cases hi;exact hVm⟩,trivial⟩
          rw[World.putObj_heap_same (R.lt x1 hg rfl)]
          simp
         refine gm.same rfl g1 ⟨by simp only[wf,wfs];exact⟨trivial,hwe.1,hwe.2,trivial⟩,.inl ?_⟩
         unfold execOp
         simp only[hop]
         refine fM ?_
         rw[x2]
         unfold Instr.next
         simp only[af,b2]
         rw[Sem.bind_ok (QW b1)]
         dsimp only
         rw[Sem.bind_ok (wJ m1)]
         dsimp only
         rw[if_neg (fun h=>hq'.1 h),hfil,hl]
         have f1:Array.filter (fun x:MapEntry=>decide (x.born<since)) ⟨[e].map (eF σ)⟩=#[eF σ e]:=by
          simp[eF,hbs]
         have f2:Array.filter (fun x:MapEntry=>decide (x.born≥since)) ⟨[e].map (eF σ)⟩=#[]:=by
          simp[eF];exact hbs
         rw[f1,f2,anZ]
         have hch:(choose (.mapNext 1)).run P w=.ok 0 w:=rfl
         refine(Sem.bind_ok (a:=0) (w':=w) hch).trans ?_
         ·show(do setObj (σ r).blk (Obj.mapIter (some (σ m).blk) since ((⟨seen⟩:Array Nat).push (eF σ e).born) clock);pure (Value.tuple #[Value.bool true,(eF σ e).key,(eF σ e).val]):Sem Value).run P w=_
          rw[Sem.bind_ok (anW _ b1)]
          rfl
       ·cases ho
     ·cases ho
    ·cases ho
  ·cases ho
 ·cases ho
end ops
end Go.aY
namespace Go.aY
variable [O:dO]
open Go.RowKit
omit O in
theorem an1{α β:Type}(f:α→β):∀(l:List α) (n:Nat),(l.eraseIdx n).map f=(l.map f).eraseIdx n:=by
 intro l
 induction l with
 |nil=>intro n;rfl
 |cons a l ih=>intro n;cases n with
  |zero=>rfl
  |succ n=>simp[ih]
section ops
variable {E:Env} {P:Program} {B:Nat→Prop} {W0:World} {σ:Sg} {V:Nat→Prop} {h:MH} {w:World} {ev:Ev} {ρ:Operand→Value}
omit O in
theorem an2{K:TypeDesc}{x y:MV}(hK:oI K=true)(he:nI K x y=some true):x=y:=by
 unfold nI at he
 cases K<;>simp only[oI,Bool.false_eq_true]at hK<;>simp only at he
 case bool=>
  split at he
  ·simp only[Option.some.injEq,beq_iff_eq]at he;rw[he]
  ·cases he
 case int k0=>
  split at he
  ·rename_i k a k' b'
   by_cases hk:k=k'
   ·subst hk
    simp only[decide_true,cond_true,Option.some.injEq,decide_eq_true_eq]at he
    rw[he]
   ·simp[hk]at he
  ·cases he
 case string=>
  split at he
  ·rename_i a b'
   simp only[Option.some.injEq,J6,decide_eq_true_eq]at he
   rw[he]
  ·cases he
omit O in
theorem an3{K:TypeDesc}{k:MV}(hK:oI K=true):∀(l:List ME) (i j:Nat) (e:ME),qF K k l i=some (some (j,e))→e.key=k:=by
 intro l
 induction l with
 |nil=>
   intro i j e h;have e':qF K k [] i=some none:=rfl
   rw[e']at h;cases h
 |cons x l ih=>
  intro i j e h
  rw[QM]at h
  split at h
  ·rename_i hq;cases h;exact(an2 hK hq).symm
  ·exact ih _ _ _ h
  ·cases h
theorem an4{kt:TypeDesc}{k:MV}(hk:∃y,nI kt k y=some true∧oI kt=true)(w:World):(Instr.keyThatStays (af σ k) (af σ k)).run P w=.ok (af σ k) w:=by
 obtain⟨y,he,hK⟩:=hk
 have hs:Instr.sameBits 10000 (af σ k) (af σ k)=true:=by
  unfold nI at he
  cases kt<;>simp only[oI,Bool.false_eq_true]at hK<;>simp only at he
  case bool=>split at he<;>first|(cases he;done)|simp[af,Instr.sameBits]
  case int=>split at he<;>first|(cases he;done)|simp[af,Instr.sameBits]
  case string=>
   split at he
   ·simp only[af,Instr.sameBits];rw[QH];simp
   ·cases he
 unfold Instr.keyThatStays
 simp[hs]
omit O in
theorem an5{K:TypeDesc}{k:MV}:∀(l:List ME) (i j:Nat) (e:ME),qF K k l i=some (some (j,e))→nI K k e.key=some true:=by
 intro l
 induction l with
 |nil=>
   intro i j e h;have e':qF K k [] i=some none:=rfl
   rw[e']at h;cases h
 |cons x l ih=>
  intro i j e h
  rw[QM]at h
  split at h
  ·rename_i hq;cases h;exact hq
  ·exact ih _ _ _ h
  ·cases h
theorem aak(hE:bM E P)(R:Rel E.G B W0 σ V h w)(hev:eP σ V ev ρ){t:TypeId}{m k x:Operand}{v:MV}{h':MH}
  (ho:CS E ev t m k x h=some (v,h')):∃w',Rel E.G B W0 σ V h' w'∧h'.nx=h.nx∧v=jM∧(Instr.mapUpdate t (ρ m) (ρ k) (ρ x)).run P w=.ok () w':=by
 unfold CS at ho
 split at ho
 ·rename_i mv kv xv hm hk hx
  obtain⟨m1,m2⟩:=hev m _ hm
  obtain⟨k1,k2⟩:=hev k _ hk
  obtain⟨x1,x2⟩:=hev x _ hx
  unfold Zw at ho
  split at ho
  ·rename_i K el id hkd
   obtain⟨kt,u1,u2,hK⟩:=Kq hE hkd
   simp only[wf]at m1
   split at ho
   ·rename_i es c hg
    obtain⟨b1,b2⟩:=R.blk id _ m1 hg
    cases hG:Nat.ble E.G.ro id with
    |false=>rw[hG]at ho;cases ho
    |true=>
     rw[hG]at ho
     simp only[cond_true]at ho
     have hG:=Nat.le_of_ble_eq_true hG
     rw[m2,k2,x2]
     unfold Instr.mapUpdate
     rw[Sem.bind_ok (dE u1 w)]
     simp only[af]
     rw[Sem.bind_ok (wJ b1)]
     dsimp only
     split at ho
     ·rename_i i e hf
      cases ho
      have hfk:=Dl (P:=P) u2 hK k1 b2 hf w
      obtain⟨-,h4⟩:=Ko hK k1 es 0 _ b2 hf
      obtain⟨-,h5⟩:=h4 _ _ rfl
      simp only[Nat.sub_zero]at h5
      have hek:=an3 hK _ _ _ _ hf
      have hlt:i<es.length:=(List.getElem?_eq_some_iff.1 h5).1
      refine⟨w.putObj (σ id).blk (.map ⟨(P7 es i {e with key:=kv,val:=xv}).map (eF σ)⟩ c),R.write m1 hg rfl hG _ ⟨?_,?_⟩,rfl,rfl,?_⟩
      ·rw[World.putObj_heap_same (R.lt m1 hg rfl)]
      ·intro y hy
       rw[ZK]at hy
       rcases List.mem_or_eq_of_mem_set hy with hy|rfl
       ·exact b2 y hy
       ·exact⟨k1,x1⟩
      ·refine(Sem.bind_ok (Dk u2 hK _ w)).trans ?_
       refine(Sem.bind_ok hfk).trans ?_
       dsimp only[Option.map_some]
       have hold:(((⟨es.map (eF σ)⟩:Array MapEntry)[i]?).map (·.key)).getD (af σ kv)=af σ kv:=by
        simp[h5,eF,hek]
       rw[hold,Sem.bind_ok (an4 ⟨_,an5 _ _ _ _ hf,hK⟩ w)]
       rw[KN _ b1]
       congr 3
       rw[ZK,←Array.toList_inj]
       simp only[Array.toList_modify,List.map_set]
       apply List.ext_getElem?
       intro j
       rw[List.getElem?_modify,List.getElem?_set]
       by_cases hj:i=j
       ·subst hj
        rw[List.getElem?_eq_getElem hlt]at h5
        have h5:=Option.some.inj h5
        simp[hlt,eF,h5]
       ·simp[hj]
     ·rename_i hf
      cases ho
      have hfk:=Dl (P:=P) u2 hK k1 b2 hf w
      refine⟨w.putObj (σ id).blk (.map ⟨(es++[(⟨kv,xv,c⟩:ME)]).map (eF σ)⟩ (c+1)),R.write m1 hg rfl hG _ ⟨?_,?_⟩,rfl,rfl,?_⟩
      ·rw[World.putObj_heap_same (R.lt m1 hg rfl)]
      ·intro y hy
       rcases List.mem_append.1 hy with hy|hy
       ·exact b2 y hy
       ·simp only[List.mem_singleton]at hy;subst hy;exact⟨k1,x1⟩
      ·refine(Sem.bind_ok (Dk u2 hK _ w)).trans ?_
       refine(Sem.bind_ok hfk).trans ?_
       dsimp only[Option.map_none]
       rw[KN _ b1]
       congr 3
       rw[←Array.toList_inj]
       simp[eF]
     ·cases ho
   ·cases ho
  ·cases ho
 ·cases ho
theorem an7(hE:bM E P)(R:Rel E.G B W0 σ V h w){t:TypeId}{ats:Array TypeId}{ty:TypeId}{m k:MV}(h0:ats[0]?=some t)(m1:wf σ V m)(k1:wf σ V k){v:MV}{h':MH}
  (ho:JO E t m k h=some (v,h')):∃w',Rel E.G B W0 σ V h' w'∧h'.nx=h.nx∧v=jM∧(Builtin.delete_ ats ty ⟨[af σ m,af σ k]⟩).run P w=.ok (.tuple #[]) w':=by
 unfold JO at ho
 split at ho
 ·rename_i K el id hkd
  obtain⟨kt,u1,u2,hK⟩:=Kq hE hkd
  simp only[wf]at m1
  split at ho
  ·rename_i es c hg
   obtain⟨b1,b2⟩:=R.blk id _ m1 hg
   cases hG:Nat.ble E.G.ro id with
   |false=>rw[hG]at ho;cases ho
   |true=>
    rw[hG]at ho
    simp only[cond_true]at ho
    have hG:=Nat.le_of_ble_eq_true hG
    unfold Builtin.delete_
    simp only[h0]
    rw[show((⟨[af σ (.mp id),af σ k]⟩:Array Value)[0]?:Option Value)=some (af σ (.mp id)) from rfl,show((⟨[af σ (.mp id),af σ k]⟩:Array Value)[1]?:Option Value)=some (af σ k) from rfl]
    dsimp only
    rw[Sem.bind_ok (dE u1 w)]
    simp only[af]
    rw[Sem.bind_ok (wJ b1)]
    dsimp only
    split at ho
    ·rename_i i e hf
     cases ho
     have hfk:=Dl (P:=P) u2 hK k1 b2 hf w
     refine⟨w.putObj (σ id).blk (.map ⟨(P8 es i).map (eF σ)⟩ c),R.write m1 hg rfl hG _ ⟨?_,?_⟩,rfl,rfl,?_⟩
     ·rw[World.putObj_heap_same (R.lt m1 hg rfl)]
     ·intro y hy
      rw[ZL]at hy
      exact b2 y (List.mem_of_mem_eraseIdx hy)
     ·refine(Sem.bind_ok (Dk u2 hK _ w)).trans ?_
      refine(Sem.bind_ok hfk).trans ?_
      dsimp only[Option.map_some]
      rw[Sem.bind_ok (KN _ b1)]
      simp only[Sem.run_pure]
      congr 3
      rw[ZL,←Array.toList_inj]
      obtain⟨-,h4⟩:=Ko hK k1 es 0 _ b2 hf
      obtain⟨-,h5⟩:=h4 _ _ rfl
      simp only[Nat.sub_zero]at h5
      have hlt:i<es.length:=(List.getElem?_eq_some_iff.1 h5).1
      unfold Array.eraseIdxIfInBounds
      rw[dif_pos (by simpa using hlt)]
      simp[an1]
    ·rename_i hf
     cases ho
     have hfk:=Dl (P:=P) u2 hK k1 b2 hf w
     refine⟨w,R,rfl,rfl,?_⟩
     refine(Sem.bind_ok (Dk u2 hK _ w)).trans ?_
     refine(Sem.bind_ok hfk).trans ?_
     dsimp only[Option.map_none]
     rw[Sem.bind_ok (KN _ b1),Kt b1]
     rfl
    ·cases ho
  ·cases ho
 ·cases ho
omit O in
theorem an8(a b:Nat):JK a b=Nat.min a b:=by
 unfold JK
 cases hb:Nat.ble a b with
 |true=>have:=Nat.le_of_ble_eq_true hb;simp only[cond_true];exact(Nat.min_eq_left this).symm
 |false=>
  have:¬a≤b:=fun hle=>by rw[Nat.ble_eq_true_of_le hle]at hb;cases hb
  simp only[cond_false];exact(Nat.min_eq_right (by omega)).symm
omit O in
theorem QX(l:List Nat):ofBytes l=l.map (fun n=>MV.int .u8 (.ofNat n)):=by
 induction l with
 |nil=>rfl
 |cons a l ih=>exact congrArg (MV.int .u8 (.ofNat a)::·) ih
omit O in
theorem an9(l:List Nat):wfs σ V (ofBytes l)∧ones (ofBytes l)=true:=by
 rw[QX,je,jO]
 refine⟨fun u hu=>?_,fun u hu=>?_⟩
 ·obtain⟨n,-,rfl⟩:=List.mem_map.1 hu;trivial
 ·obtain⟨n,-,rfl⟩:=List.mem_map.1 hu;rfl
theorem aoa{l:List Nat}(hl:∀x∈l,x<256):aH σ (ofBytes l)=(l.map UInt8.ofNat).map (fun x=>Value.int .u8 (x.toNat:Int)):=by
 rw[QX,dZ,List.map_map,List.map_map]
 apply List.map_congr_left
 intro n hn
 have:=hl n hn
 simp[af]
 omega
theorem aal{x:MV}{n:Nat}(hx:pG h x=some n)(hm:∀id,x≠.mp id)(hn:x≠.bK):(Builtin.lenOf (af σ x)).run P w=.ok n w:=by
 cases x<;>simp only[pG]at hx<;>first|(cases hx;done)|exact absurd rfl (hm _)|exact absurd rfl hn|skip
 ·cases hx;simp only[af,Builtin.lenOf,wI,lH];rfl
 all_goals (cases hx;rfl)
theorem QY(R:Rel E.G B W0 σ V h w){x:MV}{es n:Nat}{c:List MV}(x1:wf σ V x)(hc:x9 es n h x=some c)(hle:∀m,pG h x=some m→n≤m) :
  wfs σ V c∧ones c=true∧(Builtin.firstCells es n (af σ x)).run P w=.ok ⟨aH σ c⟩ w:=by
 have key:∀{id off len cap:Nat} {d:List MV},V id→n≤len→sH h id off (Nat.mul len es)=some d→oG (Nat.mul n es) d=some c→
   wfs σ V c∧ones c=true∧(Builtin.firstCells es n (.slice (some ⟨(σ id).blk,(σ id).off+off,none⟩) len cap)).run P w=.ok ⟨aH σ c⟩ w:=by
  intro id off len cap d hv hnl hr ht
  obtain⟨r1,r2,r3,r4⟩:=yl R hv hr
  obtain⟨hn,rfl⟩:=C9 ht
  have hmem:∀v∈d.take (Nat.mul n es),v∈d:=fun v hv=>List.mem_of_mem_take hv
  refine⟨(je _).2 fun v hv=>(je _).1 r1 v (hmem v hv),(jO _).2 fun v hv=>(jO _).1 r2 v (hmem v hv),?_⟩
  have:=FY (P:=P) (σ:=σ) (w:=w) (id:=id) (off:=off) (l:=d.take (Nat.mul n es)) (fun i v hi=>r4 i v (by
   rw[List.getElem?_take]at hi
   split at hi
   ·exact hi
   ·cases hi))
  have hlen:(d.take (Nat.mul n es)).length=n*es:=by rw[List.length_take];simp only[Nat.mul_eq]at hn ⊢;omega
  rw[hlen]at this
  exact this
 have empty:∀d:List MV,pG h x=some 0→oG (Nat.mul n es) ([]:List MV)=some d→n=0∧d=[]:=by
  intro d hl hd
  have hn0:n≤0:=hle 0 hl
  have hn0:n=0:=by omega
  subst hn0
  obtain⟨-,rfl⟩:=C9 hd
  simp
 cases x<;>simp only[x9,oH]at hc<;>first|(cases hc;done)|skip
 ·rename_i b
  split at hc
  ·rename_i l hl
   cases hc
   obtain⟨hn,rfl⟩:=C9 hl
   simp only[wf]at x1
   obtain⟨o1,o2⟩:=an9 (σ:=σ) (V:=V) (b.take n)
   refine⟨o1,o2,?_⟩
   simp only[af,Builtin.firstCells,Sem.run_pure]
   congr 1
   rw[aoa (fun x hx=>x1 x (List.mem_of_mem_take hx)),←Array.toList_inj]
   simp[bytesV,List.extract_eq_take_drop,List.map_take]
  ·cases hc
 ·obtain⟨rfl,rfl⟩:=empty c rfl hc
  exact⟨trivial,rfl,rfl⟩
 ·rename_i id off len cap
  simp only[wf]at x1
  split at hc
  ·rename_i d hd
   exact key x1.1 (hle len rfl) hd hc
  ·cases hc
 ·rename_i id off l len
  simp only[wf]at x1
  split at hc
  ·rename_i d hd
   exact key x1.1 (hle len rfl) hd hc
  ·cases hc
 ·obtain⟨rfl,rfl⟩:=empty c rfl hc
  refine⟨trivial,rfl,?_⟩
  simp only[af,Builtin.firstCells,Nat.zero_mul,loadCells,loadCellsFrom]
  rfl
end ops
end Go.aY
namespace Go.aY
variable [O:dO]
open Go.RowKit
section ops
variable {E:Env} {P:Program} {B:Nat→Prop} {W0:World} {σ:Sg} {V:Nat→Prop} {h:MH} {w:World} {ev:Ev} {ρ:Operand→Value}
theorem aob{d:MV}{n:Nat}{c:List MV}{h':MH}{v:MV}(hd:JL E d n c h=some (v,h')):∃a m cp,af σ d=.slice a m cp:=by
 cases d<;>simp only[JL]at hd<;>first|(cases hd;done)|exact⟨_,_,_,rfl⟩
theorem aoc(hE:bM E P)(R:Rel E.G B W0 σ V h w){ats:Array TypeId}{ty:TypeId}{d x:MV}(d1:wf σ V d)(x1:wf σ V x){v:MV}{h':MH}
  (ho:JM E ats.toList d x h=some (v,h')):∃w',Rel E.G B W0 σ V h' w'∧h'.nx=h.nx∧wf σ V v∧(Builtin.copy_ ats ty ⟨[af σ d,af σ x]⟩).run P w=.ok (af σ v) w':=by
 unfold JM at ho
 split at ho
 ·rename_i dt hdt
  rw[yw]at hdt
  split at ho
  ·rename_i D hD
   have uD:=(hE.ty dt D hD).2
   split at ho
   ·rename_i e hd
    rw[hd]at uD
    split at ho
    ·rename_i es dl xl hes hdl hxl
     split at ho
     ·rename_i c hc
      rw[an8]at hc ho
      have hxs:(∀id,x≠.mp id)∧x≠.bK:=by
       constructor
       ·rintro id rfl;simp[x9,oH]at hc
       ·rintro rfl;simp[x9,oH]at hc
      have hln:=aal (P:=P) (σ:=σ) (w:=w) hxl hxs.1 hxs.2
      obtain⟨c1,c2,c3⟩:=QY (P:=P) R x1 hc (fun m hm=>by rw[hxl]at hm;cases hm;exact Nat.min_le_left _ _)
      obtain⟨a,m,cp,hde⟩:=aob (σ:=σ) ho
      have hm:m=dl:=by
       cases d<;>simp only[pG]at hdl<;>simp only[af]at hde<;>first|(cases hde;done)|(cases hdl;done)|(cases hdl;cases hde;rfl)
      subst hm
      have pre:∀K:Value→World→Prop,(∃w',(do
        if let some a:=a then storeCells a (aH σ c)
        pure (goInt (Nat.min xl m)):Sem Value).run P w=.ok (af σ v) w'∧K (af σ v) w')→
        ∃w',(Builtin.copy_ ats ty ⟨[af σ d,af σ x]⟩).run P w=.ok (af σ v) w'∧K (af σ v) w':=by
       rintro K ⟨w',hw,hK⟩
       refine⟨w',?_,hK⟩
       unfold Builtin.copy_
       simp only[hdt]
       rw[show((⟨[af σ d,af σ x]⟩:Array Value)[0]?:Option Value)=some (af σ d) from rfl,show((⟨[af σ d,af σ x]⟩:Array Value)[1]?:Option Value)=some (af σ x) from rfl,hde]
       dsimp only
       rw[Sem.bind_ok (dE uD w)]
       dsimp only
       rw[Sem.bind_ok hln]
       rw[Sem.bind_ok (sQ hE hes w)]
       rw[Sem.bind_ok c3]
       exact hw
      have fin:=pre (fun _ w'=>Rel E.G B W0 σ V h' w'∧h'.nx=h.nx∧wf σ V v) (by
       have wr:∀{id off:Nat} {h1:MH} ,V id→a=some ⟨(σ id).blk,(σ id).off+off,none⟩→zM E h id off c=some h1→(v,h')=(.int .i64 (.ofNat (Nat.min xl m)),h1)→
         ∃w',(do
          if let some a:=a then storeCells a (aH σ c)
          pure (goInt (Nat.min xl m)):Sem Value).run P w=.ok (af σ v) w'∧Rel E.G B W0 σ V h' w'∧h'.nx=h.nx∧wf σ V v:=by
        intro id off h1 hv ha hw he
        cases he
        obtain⟨w',r1,r2,r3⟩:=QR (P:=P) R hv c1 hw
        refine⟨w',?_,r1,r3,trivial⟩
        rw[ha]
        dsimp only
        rw[Sem.bind_ok r2]
        rfl
       cases d<;>simp only[JL]at ho<;>simp only[af]at hde<;>first|(cases ho;done)|skip
       ·cases ho
        cases hde
        refine⟨w,?_,R,rfl,trivial⟩
        dsimp only
        rw[show Nat.min xl 0=0 from Nat.min_zero xl]
        rfl
       ·rename_i id off len cap
        simp only[wf]at d1
        split at ho
        ·rename_i h1 hw
         cases hde
         exact wr d1.1 rfl hw (Option.some.inj ho).symm
        ·cases ho
       ·rename_i id off l len
        simp only[wf]at d1
        split at ho
        ·rename_i h1 hw
         cases hde
         exact wr d1.1 rfl hw (Option.some.inj ho).symm
        ·cases ho)
      obtain⟨w',f1,f2,f3,f4⟩:=fin
      exact⟨w',f2,f3,f4,f1⟩
     ·cases ho
    ·cases ho
   ·cases ho
  ·cases ho
 ·cases ho
theorem Rel.take{G:GB}(R:Rel G B W0 σ V h w){id:Nat}{b0 b:MB}(hv:V id)(hb0:h.get id=some b0)(hl0:live b0=true)(hG:G.ro≤id)(o:Obj)(off cap:Nat)
  (hblk:jP (upd σ h.nx ⟨(σ id).blk,off,cap⟩) (iy V h.nx) h.nx (w.putObj (σ id).blk o) b) :
  Rel G B W0 (upd σ h.nx ⟨(σ id).blk,off,cap⟩) (iy V h.nx) ((h.set id .dead).new b) (w.putObj (σ id).blk o):=by
 have kK:¬V h.nx:=fun hv=>Nat.lt_irrefl _ (R.vx _ hv)
 have ha:=qJ (V:=V) σ ⟨(σ id).blk,off,cap⟩ kK
 have hown:=R.own id b0 hv hb0 hl0 hG
 have hne:∀k,V k→k≠h.nx:=fun k hk e=>kK (e▸hk)
 have hget:∀k,k≠h.nx→k≠id→((h.set id .dead).new b).get k=h.get k:=fun k h1 h2=>by
  rw[MH.zW,if_neg (by simpa using h1),MH.Df,if_neg h2]
 have aod:((h.set id .dead).new b).get id=some .dead:=by
  rw[MH.zW,if_neg (by simpa using hne id hv),MH.Df,if_pos rfl]
 have hnew:((h.set id .dead).new b).get h.nx=some b:=by rw[MH.zW,if_pos (by simp)]
 have hheap:∀k,k≠(σ id).blk→(w.putObj (σ id).blk o).heap[k]?=w.heap[k]?:=fun k hk=>World.putObj_heap_other hk
 have old:∀k b',V k→((h.set id .dead).new b).get k=some b'→live b'=true→h.get k=some b'∧(σ k).blk≠(σ id).blk:=by
  intro k b' hk hb' hl'
  by_cases e:k=id
  ·subst e;rw[aod]at hb';cases hb';cases hl'
  ·rw[hget k (hne k hk) e]at hb'
   exact⟨hb',fun e'=>e (R.inj k id b' b0 hk hv hb' hb0 hl' hl0 e')⟩
 refine⟨fun k b' hk hb'=>?_,fun FW FX b1 b2 hv1 hv2 h1 h2 l1 l2 he=>?_,fun k b' hk hb' hl' hg=>?_,fun k hk=>?_,fun k b' hb'=>?_,fun k hk=>?_,Nat.le_succ_of_le R.gx,
  ⟨R.below.os,R.below.tape,R.below.output,by simpa[World.putObj]using R.below.size,fun k hk=>by rw[hheap k (fun e=>hown (e▸hk))];exact R.below.block k hk⟩⟩
 ·rcases hk with hk|rfl
  ·cases hl':live b' with
   |false=>cases b'<;>first|trivial|cases hl'
   |true=>
    obtain⟨g1,g2⟩:=old k b' hk hb' hl'
    exact(R.blk k b' hk g1).jf ha (fun _ hx=>.inl hx) hk (fun _=>hheap _ g2)
  ·rw[hnew]at hb';cases hb';exact hblk
 ·rcases hv1 with hv1|rfl<;>rcases hv2 with hv2|rfl
  ·obtain⟨g1,-⟩:=old _ _ hv1 h1 l1
   obtain⟨g2,-⟩:=old _ _ hv2 h2 l2
   rw[ha _ hv1,ha _ hv2]at he
   exact R.inj _ _ _ _ hv1 hv2 g1 g2 l1 l2 he
  ·obtain⟨-,g2⟩:=old _ _ hv1 h1 l1
   rw[ha _ hv1,upd_same]at he
   exact absurd he g2
  ·obtain⟨-,g2⟩:=old _ _ hv2 h2 l2
   rw[ha _ hv2,upd_same]at he
   exact absurd he.symm g2
  ·rfl
 ·rcases hk with hk|rfl
  ·obtain⟨g1,-⟩:=old k b' hk hb' hl'
   rw[ha _ hk];exact R.own k b' hk g1 hl' hg
  ·rw[upd_same];exact hown
 ·obtain⟨h1,h2,h3⟩:=R.qI k hk
  refine⟨.inl h1,?_⟩
  rw[ha _ h1];exact⟨h2,h3⟩
 ·by_cases e1:k=h.nx
  ·subst e1;exact Nat.lt_succ_self _
  ·by_cases e2:k=id
   ·subst e2;exact Nat.lt_succ_of_lt (R.vx _ hv)
   ·rw[hget k e1 e2]at hb';exact Nat.lt_succ_of_lt (R.nx k b' hb')
 ·rcases hk with hk|rfl
  ·exact Nat.lt_succ_of_lt (R.vx k hk)
  ·exact Nat.lt_succ_self _
omit O in
theorem aoe{need old:Nat}(h1:old<need)(h2:need≤1048576):Builtin.nextslicecap need old≤8388608:=by
 unfold Builtin.nextslicecap
 split
 ·omega
 ·split
  ·omega
  ·simp only[Builtin.growBy]
   (repeat' split)<;>omega
end ops
end Go.aY
namespace Go.aY
variable [O:dO]
open Go.RowKit
def wK(elem:TypeId)(zeros:Bool)(base:Option Addr)(sLen sCap n size:Nat)(s x:Value)(appended:Sem (Array Value)):Sem Value:=do
 let need:=sLen+n
 if need≤sCap then
  let new ←appended
  if let some a:=base then storeCells (a.add (sLen*size)) new.toList
  pure (.slice base need sCap)
 else
  if(need:Int) > IntKind.i64.max∧(zeros∨(←typeInfo elem).bytes=0)then runtimePanic (.error "growslice: len out of range")
  if Builtin.nextslicecap need sCap*(←typeInfo elem).bytes > 2 ^ 48 then(if zeros then runtimePanic (.error "growslice: len out of range")else do
   if !(←Builtin.mayShare size sLen n base x)then mark .noRoom
   unsupported (.resourceLimit "append: a slice or a string whose bytes no memory bears"))
  let newCap ←choose (.appendCap need sCap elem)
  askRoom (newCap*(←typeInfo elem).bytes)
  let old ←Builtin.firstCells size sLen s
  let new ←appended
  let rest:=Builtin.zeroCells (←zeroValue elem).cells (newCap-need)
  pure (.slice (some (←newRow elem (old++new++rest))) need newCap)
section ops
variable {E:Env} {P:Program} {B:Nat→Prop} {W0:World} {σ:Sg} {V:Nat→Prop} {h:MH} {w:World} {ev:Ev} {ρ:Operand→Value}
theorem QZ(hE:bM E P)(R:Rel E.G B W0 σ V h w)(hW:∀k,B k→k<W0.heap.size){e:TypeId}{Te:MT}(hTe:E.ty.get e=some Te)(hby:Te.info.bytes≤65536)
  {z:List MV} (hz:uO Te=some z) {zeros:Bool} {base:Option Addr} {sLen sCap n:Nat} {s x:Value} {App:Sem (Array Value)} {old c:List MV}
  (hfit:sCap<sLen+n) (hold:∀w',(w'=w.drew)→(Builtin.firstCells Te.info.size sLen s).run P w'=.ok ⟨aH σ old⟩ w') (ho1:wfs σ V old) (ho2:ones old=true) (ho3:old.length=sLen*Te.info.size)
  (happ:App.run P w.drew=.ok ⟨aH σ c⟩ w.drew) (hc1:wfs σ V c) (hc2:ones c=true) (hc3:c.length=n*Te.info.size)
  {v:MV} {h':MH} (ho:BU e Te.info.size sLen n (old++c) h=some (v,h')) :
  gm E.G B W0 σ V h h' (fun σ' V' w'=>wf σ' V' v∧(wK e zeros base sLen sCap n Te.info.size s x App).run P w=.ok (af σ' v) w'):=by
 unfold BU at ho
 cases hb:Nat.ble (Nat.add sLen n) 1048576 with
 |false=>rw[hb]at ho;cases ho
 |true=>
  rw[hb]at ho
  cases ho
  have hb:=Nat.le_of_ble_eq_true hb
  simp only[Nat.add_eq]at hb
  obtain⟨ti,tu⟩:=hE.ty e Te hTe
  obtain⟨m,m1,m2,m3,m4,m5⟩:=zZ (σ:=σ) (V:=V) hE hTe hz
  have hgr:=aoe hfit hb
  obtain⟨cap,hcap,hch⟩:∃cap,sLen+n≤cap∧(choose (.appendCap (sLen+n) sCap e)).run P w=.ok cap w.drew:=by
   refine⟨(sLen+n)+w.tape w.drawn (.appendCap (sLen+n) sCap e) % (2 ^ 63-(sLen+n)),by omega,?_⟩
   rw[run_choose_drew]
   simp[Question.forced,Question.cut]
  let cells:Array Value:=⟨aH σ old⟩++⟨aH σ c⟩++Builtin.zeroCells (af σ m).cells (cap-(sLen+n))
  have hzc:Builtin.zeroCells (af σ m).cells (cap-(sLen+n))=⟨aH σ (List.replicate (cap-(sLen+n)) z).flatten⟩:=by
   unfold Builtin.zeroCells
   rw[m2]
   have hzs:(⟨aH σ z⟩:Array Value).size=Te.info.size:=by rw[dZ];simpa using m5
   have:=Kv (σ:=σ) (n:=cap-(sLen+n)) m5
   rw[hzs]at this ⊢
   exact this
  have hcs:cells=⟨aH σ (old++c++(List.replicate (cap-(sLen+n)) z).flatten)⟩:=by
   simp only[cells,hzc,dZ,List.map_append]
   simp
  have hsz:cells.size=cap*Te.info.size:=by
   rw[hcs,dZ]
   simp only[List.size_toArray,List.length_map,List.length_append,ho3,hc3]
   simp[m5]
   rw[←Nat.add_mul,←Nat.add_mul]
   congr 1
   omega
  have hblk:jP (upd σ h.nx ⟨w.drew.heap.size,0,cap⟩) (iy V h.nx) h.nx (w.drew.alloc (.cells cells e)) (.cells (old++c) e Te.info.size true):=by
   have kK:¬V h.nx:=fun hv=>Nat.lt_irrefl _ (R.vx _ hv)
   have ha:=qJ (V:=V) σ ⟨w.drew.heap.size,0,cap⟩ kK
   have hoc:wfs σ V (old++c):=yx.2 ⟨ho1,hc1⟩
   refine⟨cells,(0,0),by rw[upd_same];exact uV _ _,sO ha (fun _ hx=>.inl hx) _ hoc,?_,fun i u hi=>?_,fun _=>?_,.inl rfl⟩
   ·rw[jO];intro u hu
    rcases List.mem_append.1 hu with hu|hu
    ·exact(jO _).1 ho2 u hu
    ·exact(jO _).1 hc2 u hu
   ·rw[upd_same,uU ha u ((je _).1 hoc u (List.mem_of_getElem? hi)),hcs,dZ]
    have hlt:=(List.getElem?_eq_some_iff.1 hi).1
    simp only[Nat.zero_add,List.getElem?_toArray,List.getElem?_map]
    rw[List.getElem?_append_left hlt,hi]
    rfl
   ·rw[upd_same,hsz];simp
  refine gm.new R.drew hW 0 cap hblk ⟨?_,?_⟩
  ·simp only[wf,upd_same]
   exact⟨.inr rfl,by show 0+(sLen+n)≤cap;omega⟩
  ·unfold wK
   dsimp only
   rw[if_neg (by omega)]
   rw[Sem.bind_ok (FV ti w)]
   rw[if_neg (by
    rintro⟨h1,-⟩
    simp only[IntKind.max,IntKind.signed,IntKind.bits]at h1
    simp at h1
    omega)]
   rw[Sem.bind_ok (FV ti w)]
   rw[if_neg (by
    have:Builtin.nextslicecap (sLen+n) sCap*Te.info.bytes≤8388608*65536:=Nat.mul_le_mul hgr hby
    omega)]
   rw[Sem.bind_ok hch,Sem.bind_ok (FV ti _),Sem.bind_ok (run_askRoom (P:=P) (w:=w.drew) _),Sem.bind_ok (hold _ rfl),Sem.bind_ok happ,Sem.bind_ok (m1 _)]
   refine(Sem.bind_ok (yz e _ _)).trans ?_
   simp only[Sem.run_pure,af,upd_same]
   rfl
theorem aof(hE:bM E P)(R:Rel E.G B W0 σ V h w)(hW:∀k,B k→k<W0.heap.size){e:TypeId}{Te:MT}(hTe:E.ty.get e=some Te)(hby:Te.info.bytes≤65536)
  {z:List MV} (hz:uO Te=some z) {zeros:Bool} {base:Option Addr} {sLen sCap n:Nat} {s:MV} {x:Value} {App:Sem (Array Value)} {c:List MV} (s1:wf σ V s) (hs:af σ s=.slice base sLen sCap)
  (happ:∀w',(w'=w∨w'=w.drew)→App.run P w'=.ok ⟨aH σ c⟩ w') (hc1:wfs σ V c) (hc2:ones c=true) (hc3:c.length=n*Te.info.size)
  {v:MV} {h':MH} (ho:Fz E e Te.info.size s n c h=some (v,h')) :
  gm E.G B W0 σ V h h' (fun σ' V' w'=>wf σ' V' v∧(wK e zeros base sLen sCap n Te.info.size (af σ s) x App).run P w=.ok (af σ' v) w'):=by
 unfold Fz at ho
 split at ho
 ·
  cases hs
  cases hb:Nat.beq n 0 with
  |true=>
   rw[hb]at ho
   cases ho
   have:=Nat.eq_of_beq_eq_true hb
   subst this
   refine gm.same rfl R ⟨trivial,?_⟩
   unfold wK
   dsimp only
   rw[if_pos (by omega),Sem.bind_ok (happ w (.inl rfl))]
   rfl
  |false=>
   rw[hb]at ho
   simp only[cond_false]at ho
   have hn:n≠0:=fun e=>by subst e;cases hb
   exact QZ hE R hW hTe hby hz (old:=[]) (by omega) (fun w' _=>rfl) trivial rfl (by simp) (happ _ (.inr rfl)) hc1 hc2 hc3 ho
 ·
  rename_i id off len cap
  simp only[af,Value.slice.injEq]at hs
  obtain⟨rfl,rfl,rfl⟩:=hs
  simp only[wf]at s1
  cases hb:Nat.ble (Nat.add len n) cap with
  |true=>
   rw[hb]at ho
   simp only[cond_true]at ho
   have hb:=Nat.le_of_ble_eq_true hb
   simp only[Nat.add_eq]at hb
   split at ho
   ·rename_i h1 hw
    cases ho
    obtain⟨w',r1,r2,r3⟩:=QR (P:=P) R s1.1 hc1 hw
    refine gm.same r3 r1 ⟨by simp only[wf];exact⟨s1.1,hb⟩,?_⟩
    unfold wK
    dsimp only
    rw[if_pos hb,Sem.bind_ok (happ w (.inl rfl))]
    dsimp only
    simp only[Nat.add_eq,Nat.mul_eq]at r2
    rw[Addr.add_lit,Nat.add_assoc]
    rw[Sem.bind_ok r2]
    rfl
   ·cases ho
  |false=>
   rw[hb]at ho
   simp only[cond_false]at ho
   have hb:¬len+n≤cap:=fun hle=>by
    have:Nat.ble (Nat.add len n) cap=true:=Nat.ble_eq_true_of_le hle
    rw[this]at hb;cases hb
   split at ho
   ·rename_i old hr
    obtain⟨r1,r2,r3,r4⟩:=yl R s1.1 hr
    have Q3:=(yl R.drew s1.1 hr).2.2.2
    refine QZ hE R hW hTe hby hz (old:=old) (by omega) (fun w' hw'=>?_) r1 r2 r3 (happ _ (.inr rfl)) hc1 hc2 hc3 ho
    subst hw'
    have:=FY (P:=P) Q3
    rw[r3]at this
    exact this
   ·cases ho
 ·
  rename_i id off l len
  simp only[af,Value.slice.injEq]at hs
  obtain⟨rfl,rfl,rfl⟩:=hs
  simp only[wf]at s1
  cases hb:Nat.beq n 0 with
  |true=>
   rw[hb]at ho
   cases ho
   have:=Nat.eq_of_beq_eq_true hb
   subst this
   have hcn:c=[]:=List.eq_nil_of_length_eq_zero (by simpa using hc3)
   subst hcn
   refine gm.same rfl R ⟨by simp only[wf];exact s1,?_⟩
   unfold wK
   dsimp only
   rw[if_pos (by omega),Sem.bind_ok (happ w (.inl rfl))]
   rfl
  |false=>
   rw[hb]at ho
   simp only[cond_false]at ho
   have hn:n≠0:=fun e=>by subst e;cases hb
   split at ho
   ·rename_i cs t' es' hg
    cases hc:(and (Nat.ble E.G.ro id) (and (Nat.beq es' Te.info.size) (and (Nat.beq off (Nat.mul l Te.info.size)) (Nat.beq t' e))))with
    |false=>rw[hc]at ho;cases ho
    |true=>
     rw[hc]at ho
     simp only[cond_true]at ho
     obtain⟨k1,k2⟩:=jX hc
     obtain⟨k2,k3⟩:=jX k2
     obtain⟨k3,k4⟩:=jX k3
     have g4:=Nat.eq_of_beq_eq_true k4
     have g1:=Nat.le_of_ble_eq_true k1
     have g2:=Nat.eq_of_beq_eq_true k2
     have g3:=Nat.eq_of_beq_eq_true k3
     simp only[Nat.mul_eq]at g3
     clear k1 k2 k3 k4 hc
     subst g2
     subst g4
     split at ho
     ·rename_i old hr
      have hrd:sH h id off (Nat.mul len Te.info.size)=some old:=by unfold sH;rw[hg];exact hr
      obtain⟨r1,r2,r3,r4⟩:=yl R s1.1 hrd
      have Q3:=(yl R.drew s1.1 hrd).2.2.2
      by_cases hfit:len+n≤(σ id).cap-l
      ·
       unfold BU at ho
       cases hb2:Nat.ble (Nat.add len n) 1048576 with
       |false=>rw[hb2]at ho;cases ho
       |true=>
        rw[hb2]at ho
        cases ho
        obtain⟨c0,fz,b1,b2,b3,b4,b5,b6⟩:=R.blk id _ s1.1 hg
        have b5:=b5 rfl
        have hlen:(aH σ c).length=n*Te.info.size:=by rw[dZ];simpa using hc3
        have hroom:(σ id).off+off+len*Te.info.size+n*Te.info.size≤c0.size:=by
         have h2:(l+len+n)*Te.info.size≤(σ id).cap*Te.info.size:=Nat.mul_le_mul_right _ (by omega)
         rw[Nat.add_mul,Nat.add_mul,←g3]at h2
         omega
        have hst:=aac (P:=P) (b:=(σ id).blk) (o:=(σ id).off+off+len*Te.info.size) (aH σ c) 0 c0 w b1 b6 (by rw[hlen];omega) (fun u hu=>by
         rw[dZ]at hu
         obtain⟨u',hu',rfl⟩:=List.mem_map.1 hu
         exact aab σ ((jO _).1 hc2 u' hu'))
        simp only[Nat.add_zero]at hst
        have hls:=oK ((σ id).off+off+len*Te.info.size) (aH σ c) c0.toList (by rw[hlen];simpa using hroom)
        have kK:¬V h.nx:=fun hv=>Nat.lt_irrefl _ (R.vx _ hv)
        have ha:=qJ (V:=V) σ ⟨(σ id).blk,(σ id).off+off,(σ id).cap-l⟩ kK
        have hoc:wfs σ V (old++c):=yx.2 ⟨r1,hc1⟩
        have hblk:jP (upd σ h.nx ⟨(σ id).blk,(σ id).off+off,(σ id).cap-l⟩) (iy V h.nx) h.nx
          (w.putObj (σ id).blk (.cells ⟨jW ((σ id).off+off+len*Te.info.size) (aH σ c) c0.toList⟩ t' fz)) (.cells (old++c) t' Te.info.size true):=by
         refine⟨_,fz,by rw[upd_same];exact World.putObj_heap_same (R.lt s1.1 hg rfl),sO ha (fun _ hx=>.inl hx) _ hoc,?_,fun i u hi=>?_,fun _=>?_,?_⟩
         ·rw[jO];intro u hu
          rcases List.mem_append.1 hu with hu|hu
          ·exact(jO _).1 r2 u hu
          ·exact(jO _).1 hc2 u hu
         ·rw[upd_same,uU ha u ((je _).1 hoc u (List.mem_of_getElem? hi))]
          dsimp only
          rw[List.getElem?_toArray,hls.2,hlen]
          have r3':old.length=len*Te.info.size:=r3
          by_cases hi2:i<old.length
          ·rw[List.getElem?_append_left hi2]at hi
           rw[if_neg (by omega),Array.getElem?_toList]
           have:=r4 i u hi
           simp only[World.cell?,b1]at this
           simpa using this
          ·rw[List.getElem?_append_right (by omega)]at hi
           have hlt:=(List.getElem?_eq_some_iff.1 hi).1
           rw[if_pos (by omega),dZ,List.getElem?_map,show(σ id).off+off+i-((σ id).off+off+len*Te.info.size)=i-old.length by omega,hi]
           rfl
         ·rw[upd_same]
          simp only[List.size_toArray,hls.1,Array.length_toList]
          have h2:l*Te.info.size+((σ id).cap-l)*Te.info.size=(σ id).cap*Te.info.size:=by rw[←Nat.add_mul];congr 1;omega
          omega
         ·simp only[List.size_toArray,hls.1,Array.length_toList]
          exact b6
        refine⟨_,_,_,ha,fun _ hx=>.inl hx,fun k hx=>hx.imp (fun x=>x) (fun e=>Nat.le_of_eq e.symm),Nat.le_succ _,R.take s1.1 hg rfl g1 _ _ _ hblk,?_,?_⟩
        ·simp only[wf,MH.ZM,upd_same]
         exact⟨.inr rfl,by show 0+(len+n)≤_;omega⟩
        ·unfold wK
         dsimp only
         rw[if_pos hfit,Sem.bind_ok (happ w (.inl rfl))]
         dsimp only
         rw[Addr.add_lit,Sem.bind_ok hst]
         simp only[Sem.run_pure,af,MH.ZM,upd_same,Nat.add_zero,Nat.sub_zero]
         rfl
      ·have hgrow:=QZ (zeros:=zeros) (base:=some ⟨(σ id).blk,(σ id).off+off,none⟩) (sCap:=(σ id).cap-l) (x:=x) hE (R.kill hg) hW hTe hby hz (old:=old) (s:=af σ (.bU id off l len)) (by omega) (fun w' hw'=>by
        subst hw'
        have:=FY (P:=P) Q3
        rw[r3]at this
        exact this) r1 r2 r3 (happ _ (.inr rfl)) hc1 hc2 hc3 ho
       exact hgrow
     ·cases ho
   ·cases ho
 ·cases ho
end ops
end Go.aY
namespace Go.aY
variable [O:dO]
open Go.RowKit
section ops
variable {E:Env} {P:Program} {B:Nat→Prop} {W0:World} {σ:Sg} {V:Nat→Prop} {h:MH} {w:World} {ev:Ev} {ρ:Operand→Value}
theorem aog{e:TypeId}{es n:Nat}{s:MV}{c:List MV}{r:MV×MH}(ho:Fz E e es s n c h=some r):∃a m cp,af σ s=.slice a m cp:=by
 cases s<;>simp only[Fz]at ho<;>first|(cases ho;done)|exact⟨_,_,_,rfl⟩
theorem aoh(R:Rel E.G B W0 σ V h w){es n:Nat}{x:MV}{c:List MV}(x1:wf σ V x)(hn:pG h x=some n)(hc:oH es h x=some c):c.length=n*es:=by
 cases x<;>simp only[oH]at hc<;>simp only[pG]at hn<;>first|(cases hc;done)|skip
 ·cases hc;cases hn;simp
 iterate 2
  ·cases hn
   simp only[wf]at x1
   exact(yl R x1.1 hc).2.2.1
 ·cases hc;cases hn;simp
theorem aoi(hE:bM E P)(R:Rel E.G B W0 σ V h w)(hW:∀k,B k→k<W0.heap.size){ats:Array TypeId}{ty:TypeId}{s x:MV}(s1:wf σ V s)(x1:wf σ V x){v:MV}{h':MH}
  (ho:JJ E ats.toList s x h=some (v,h')):gm E.G B W0 σ V h h' (fun σ' V' w'=>wf σ' V' v∧(Builtin.append_ ats ty ⟨[af σ s,af σ x]⟩).run P w=.ok (af σ' v) w'):=by
 unfold JJ at ho
 split at ho
 ·rename_i st xt hst hxt
  rw[yw]at hst hxt
  split at ho
  ·rename_i S X hS hX
   have uS:=(hE.ty st S hS).2
   have uX:=(hE.ty xt X hX).2
   split at ho
   ·rename_i e hd
    rw[hd]at uS
    split at ho
    ·cases ho
    ·rename_i Te hTe
     obtain⟨ti,tu⟩:=hE.ty e Te hTe
     cases hc:(and (Nat.blt 0 Te.info.size) (Nat.ble Te.info.bytes 65536))with
     |false=>rw[hc]at ho;cases ho
     |true=>
      rw[hc]at ho
      simp only[cond_true]at ho
      obtain⟨c1,c2⟩:=jX hc
      have c1:=sS c1
      have c2:=Nat.le_of_ble_eq_true c2
      split at ho
      ·rename_i n c z hsrc hz
       obtain⟨a,m,cp,hse⟩:=aog (σ:=σ) ho
       obtain⟨mz,m1,m2,m3,m4,m5⟩:=zZ (σ:=σ) (V:=V) hE hTe hz
       have pre:∀(zeros:Bool) (App:Sem (Array Value)),
         (∀w' u,(wK e zeros a m cp n Te.info.size (af σ s) (af σ x) App).run P w=.ok u w'→(Builtin.append_ ats ty ⟨[af σ s,af σ x]⟩).run P w=.ok u w')→
         (∀w',(w'=w∨w'=w.drew)→App.run P w'=.ok ⟨aH σ c⟩ w')→wfs σ V c→ones c=true→c.length=n*Te.info.size→
         gm E.G B W0 σ V h h' (fun σ' V' w'=>wf σ' V' v∧(Builtin.append_ ats ty ⟨[af σ s,af σ x]⟩).run P w=.ok (af σ' v) w'):=by
        intro zeros App hpre happ hc1 hc2 hc3
        refine(aof (zeros:=zeros) (x:=af σ x) hE R hW hTe c2 hz s1 hse happ hc1 hc2 hc3 ho).mono ?_
        exact fun _ _ w' _ _ hk=>⟨hk.1,hpre w' _ hk.2⟩
       unfold Zv at hsrc
       split at hsrc
       ·
        rename_i kx qg
        rw[qg]at uX
        split at hsrc
        ·rename_i k nn z' hz'
         rw[hz]at hz';cases hz'
         cases hb:Nat.ble nn 1048576 with
         |false=>rw[hb]at hsrc;cases hsrc
         |true=>
          rw[hb]at hsrc
          cases hsrc
          have hb:=Nat.le_of_ble_eq_true hb
          have hw:IntKind.i64.wrap (Int.ofNat n)=(n:Int):=wrap_small (by omega)
          have hmul:n*Te.info.bytes≤1048576*65536:=Nat.mul_le_mul hb c2
          have aoj:∀w':World,(if n*Te.info.size=0 then pure #[]else do pure (Builtin.zeroCells (←zeroValue e).cells n):Sem (Array Value)).run P w'=.ok ⟨aH σ (Fq n z)⟩ w':=by
           intro w'
           rw[Dc]
           by_cases h0:n*Te.info.size=0
           ·rw[if_pos h0]
            have:(List.replicate n z).flatten=[]:=List.eq_nil_of_length_eq_zero (by simp[m5,h0])
            rw[this];rfl
           ·rw[if_neg h0,Sem.bind_ok (m1 w'),m2]
            simp only[Sem.run_pure,Builtin.zeroCells]
            congr 1
            have hzs:(⟨aH σ z⟩:Array Value).size=Te.info.size:=by rw[dZ];simpa using m5
            have:=Kv (σ:=σ) (n:=n) m5
            rw[hzs]at this ⊢
            exact this
          refine pre true (if n*Te.info.size=0 then pure #[]else do pure (Builtin.zeroCells (←zeroValue e).cells n)) (fun w' u hu=>?_) (fun w' _=>aoj w') (by rw[Dc];exact QS m3) (by rw[Dc];exact QU m4) (by rw[Dc];simp[m5])
          unfold Builtin.append_
          simp only[hst,hxt]
          rw[show((⟨[af σ s,af σ (.int k (.ofNat n))]⟩:Array Value)[0]?:Option Value)=some (af σ s) from rfl,show((⟨[af σ s,af σ (.int k (.ofNat n))]⟩:Array Value)[1]?:Option Value)=some (.int k (.ofNat n)) from rfl]
          dsimp only
          rw[Sem.bind_ok (dE uS w)]
          dsimp only
          rw[hse]
          dsimp only
          rw[Sem.bind_ok (wH ti w),Sem.bind_ok (dE uX w)]
          simp only[asInt,asIntOf,pure_bind,hw,if_true]
          rw[if_neg (by omega),Sem.bind_ok (FV ti w)]
          rw[if_neg (by
           have:((n:Int)*(Te.info.bytes:Int))=((n*Te.info.bytes:Nat):Int):=by simp
           rw[this];omega)]
          simp only[Int.toNat_natCast]
          rw[hse]at hu
          unfold wK at hu
          simp only[Bool.not_true,Bool.false_eq_true,if_false,if_true,true_or,and_true]at hu ⊢
          exact hu
        ·cases hsrc
       ·
        rename_i hni
        have hcs:x9 Te.info.size n h x=some c∧pG h x=some n∧(∀id,x≠.mp id)∧x≠.bK∧c.length=n*Te.info.size:=by
         split at hsrc
         ·rename_i b
          cases hb:Nat.beq Te.info.size 1 with
          |false=>rw[hb]at hsrc;cases hsrc
          |true=>
           rw[hb]at hsrc
           cases hsrc
           have hb:=Nat.eq_of_beq_eq_true hb
           refine⟨?_,rfl,(fun id hid=>by cases hid),(fun hid=>by cases hid),?_⟩
           ·unfold x9
            dsimp only
            rw[lH,Qx,if_pos (by simp)]
            simp
           ·rw[lH,hb,QX];simp
         ·rename_i hns
          split at hsrc
          ·rename_i n' c' hn' hc'
           cases hsrc
           have hl:=aoh R x1 hn' hc'
           refine⟨?_,hn',?_,?_,hl⟩
           ·unfold x9
            split
            ·exact absurd rfl (hns _)
            ·rw[hc']
             dsimp only
             rw[Qx,if_pos (by rw[hl];exact Nat.le_refl _)]
             rw[List.take_of_length_le (by rw[hl];exact Nat.le_refl _)]
           ·rintro id rfl;simp[oH]at hc'
           ·rintro rfl;simp[oH]at hc'
          ·cases hsrc
        obtain⟨k1,k2,k3,k4,k5⟩:=hcs
        obtain⟨f1,f2,f3⟩:=QY (P:=P) R x1 k1 (fun q hq=>by rw[k2]at hq;cases hq;exact Nat.le_refl _)
        obtain⟨-,-,f3'⟩:=QY (P:=P) R.drew x1 k1 (fun q hq=>by rw[k2]at hq;cases hq;exact Nat.le_refl _)
        refine pre false (Builtin.firstCells Te.info.size n (af σ x)) (fun w' u hu=>?_) (fun w' hw'=>by rcases hw' with rfl|rfl;exact f3;exact f3') f1 f2 k5
        have hln:=aal (P:=P) (σ:=σ) (w:=w) k2 k3 k4
        unfold Builtin.append_
        simp only[hst,hxt]
        rw[show((⟨[af σ s,af σ x]⟩:Array Value)[0]?:Option Value)=some (af σ s) from rfl,show((⟨[af σ s,af σ x]⟩:Array Value)[1]?:Option Value)=some (af σ x) from rfl]
        dsimp only
        rw[Sem.bind_ok (dE uS w)]
        dsimp only
        rw[hse]
        dsimp only
        rw[Sem.bind_ok (wH ti w),Sem.bind_ok (dE uX w)]
        rw[hse]at hu
        have hz0:(pure (match X.und with | .int _=>true|_=>false):Sem Bool).run P w=.ok false w:=by
         split
         ·rename_i kk hk;exact absurd hk (hni kk)
         ·rfl
        refine(Sem.bind_ok hz0).trans ?_
        ·rw[if_neg Bool.false_ne_true,Sem.bind_ok hln]
         exact hu
      ·cases ho
   ·cases ho
  ·cases ho
 ·cases ho
end ops
end Go.aY
namespace Go.aY
variable [O:dO]
open Go.RowKit
section ops
variable {E:Env} {P:Program} {B:Nat→Prop} {W0:World} {σ:Sg} {V:Nat→Prop} {h:MH} {w:World} {ev:Ev} {ρ:Operand→Value}
omit O in
theorem aok{o:Option MV}{v:MV}{h':MH}(ho:vR o=some (.upd v h')):False:=nK (sU _) ho
omit O in
theorem aol{o:Option (gz×MB)}{v:MV}{h':MH}(ho:nJ o=some (.upd v h')):False:=by
 unfold nJ at ho;split at ho<;>cases ho
theorem Q4{c:Call}{b:Builtin}{t:TypeId}{args:List MV}(hb:c.callee=.builtin b)(ha:c.args.map ρ=⟨aH σ args⟩) :
  (resolve ρ c t).run P w=.ok {target:=.builtin b c.argTypes t (c.args.map fun | .const _=>true|_=>false),args:=⟨aH σ args⟩} w:=by
 unfold resolve;simp only[hb,ha];rfl
theorem aam(hE:bM E P)(R:Rel E.G B W0 σ V h w)(hW:∀k,B k→k<W0.heap.size)(hev:eP σ V ev ρ)(o:Oper){v:MV}{h':MH}(ho:eY E ev o.op h=some (.upd v h')) :
  gm E.G B W0 σ V h h' (Gg P ρ o w v):=by
 cases hop:o.op<;>rw[hop]at ho<;>simp only[eY]at ho<;>first|(cases ho;done)|exact(aok ho).elim|exact(aol ho).elim|skip
 case pick=>exact(nK (Kw _ _ _) ho).elim
 case build=>exact(nK (Ky _ _) ho).elim
 case load=>exact(nK (F6 _ _) ho).elim
 case nilCheck=>exact(nK (Kz _) ho).elim
 case binOp=>exact(nK (KA _ _ _ _) ho).elim
 case unOp=>exact(nK (KC _ _) ho).elim
 case makeFunc=>exact(nK (KD _ _ _) ho).elim
 case slice=>exact(nK (KE _ _ _ _ _) ho).elim
 case fieldAddr=>exact(nK (KF _ _ _) ho).elim
 case field=>exact(nK (KG _ _ _) ho).elim
 case indexAddr=>exact(nK (KH _ _ _) ho).elim
 case index=>exact(nK (KI _ _ _) ho).elim
 case lookup=>exact(nK (F7 _ _ _ _) ho).elim
 case extract=>exact(nK (KJ _ _) ho).elim
 case convert s d x=>exact anT hE R hW hev hop ho
 case store t x y=>
  obtain⟨v',h'',e1,e2⟩:=uY ho
  cases e2
  exact anQ hE R hev hop e1
 case range t x=>
  obtain⟨v',h'',e1,e2⟩:=uY ho
  cases e2
  exact anV hE R hW hev hop e1
 case next it s=>
  obtain⟨v',h'',e1,e2⟩:=uY ho
  cases e2
  exact an0 R hev hop e1
 case mapUpdate t m k x=>
  obtain⟨v',h'',e1,e2⟩:=uY ho
  cases e2
  obtain⟨w',r1,r2,rfl,r4⟩:=aak hE R hev e1
  refine gm.same r2 r1 ⟨Ad,.inr ⟨rfl,?_⟩⟩
  unfold execOp;simp only[hop]
  exact QQ r4
 case insert t m k x=>
  obtain⟨v',h'',e1,e2⟩:=uY ho
  cases e2
  obtain⟨w',r1,r2,rfl,r4⟩:=aak hE R hev e1
  refine gm.same r2 r1 ⟨Ad,.inr ⟨rfl,?_⟩⟩
  unfold execOp;simp only[hop]
  exact QQ r4
 case call c=>
  obtain⟨args,ha,hcase⟩:=KL ho
  obtain⟨a1,a2⟩:=Kr hev ha
  rcases hcase with⟨u,e⟩|⟨x,y,u,h2,hb,rfl,e,hm⟩|⟨x,y,u,h2,hb,rfl,e,hm⟩|⟨x,y,t,u,h2,hb,rfl,e,ht,hm⟩|⟨f,g,a,b,-,-,-,e⟩|⟨f,l,-,-,e⟩
  ·cases e
  ·cases e
   simp only[wfs]at a1
   refine(aoi (ty:=o.type) hE R hW a1.1 a1.2.1 hm).mono ?_
   rintro σ' V' w' - - ⟨k1,k2⟩
   refine⟨k1,.inl ?_⟩
   unfold execOp;simp only[hop]
   rw[Sem.bind_ok (Q4 (σ:=σ) hb a2)]
   exact fM k2
  ·cases e
   simp only[wfs]at a1
   obtain⟨w',r1,r2,r3,r4⟩:=aoc (ty:=o.type) hE R a1.1 a1.2.1 hm
   refine gm.same r2 r1 ⟨r3,.inl ?_⟩
   unfold execOp;simp only[hop]
   rw[Sem.bind_ok (Q4 (σ:=σ) hb a2)]
   exact fM r4
  ·cases e
   simp only[wfs]at a1
   rw[yw]at ht
   obtain⟨w',r1,r2,rfl,r4⟩:=an7 (ty:=o.type) hE R ht a1.1 a1.2.1 hm
   refine gm.same r2 r1 ⟨Ad,.inl ?_⟩
   unfold execOp;simp only[hop]
   rw[Sem.bind_ok (Q4 (σ:=σ) hb a2)]
   exact fM r4
  ·cases e
  ·cases e
omit O in
theorem aom{f:FuncId}{args:List MV}{o:Op}(ho:eY E ev o h=some (.enter f args)):∃c,o=.call c∧wE E ev c h=some (.enter f args):=by
 have gB:∀{x:Option MR},fV x→x=some (.enter f args)→False:=fun hv hx=>by obtain⟨v,e⟩:=hv _ hx;cases e
 have xW:∀{x:Option (MV×MH)},mr x=some (.enter f args)→False:=fun hx=>by obtain⟨_,_,_,e⟩:=uY hx;cases e
 have Q5:∀{x:Option (gz×MB)},nJ x=some (.enter f args)→False:=fun{x} hx=>by unfold nJ at hx;split at hx<;>cases hx
 cases o<;>simp only[eY]at ho<;>first|(cases ho;done)|exact(xW ho).elim|exact(Q5 ho).elim|exact(gB (sU _) ho).elim|exact⟨_,rfl,ho⟩|skip
 case pick=>exact(gB (Kw _ _ _) ho).elim
 case build=>exact(gB (Ky _ _) ho).elim
 case load=>exact(gB (F6 _ _) ho).elim
 case nilCheck=>exact(gB (Kz _) ho).elim
 case binOp=>exact(gB (KA _ _ _ _) ho).elim
 case unOp=>exact(gB (KC _ _) ho).elim
 case makeFunc=>exact(gB (KD _ _ _) ho).elim
 case slice=>exact(gB (KE _ _ _ _ _) ho).elim
 case fieldAddr=>exact(gB (KF _ _ _) ho).elim
 case field=>exact(gB (KG _ _ _) ho).elim
 case indexAddr=>exact(gB (KH _ _ _) ho).elim
 case index=>exact(gB (KI _ _ _) ho).elim
 case lookup=>exact(gB (F7 _ _ _ _) ho).elim
 case extract=>exact(gB (KJ _ _) ho).elim
 case convert=>rcases F8 ho with⟨v,e⟩|⟨S,D,e,T,b,-,-,-,-,-,-,-,e⟩|⟨S,D,e1,e2,T,xv,-,-,-,-,-,-,-,-,hm⟩<;>first|cases e|(obtain⟨_,_,_,_,_,_,_,_,-,-,-,e⟩:=Dj hm;cases e)
omit O in
theorem aon{l:Nat}{args:List MV}{o:Op}(ho:eY E ev o h=some (.round l args)):∃c,o=.call c∧wE E ev c h=some (.round l args):=by
 have gB:∀{x:Option MR},fV x→x=some (.round l args)→False:=fun hv hx=>by obtain⟨v,e⟩:=hv _ hx;cases e
 have xW:∀{x:Option (MV×MH)},mr x=some (.round l args)→False:=fun hx=>by obtain⟨_,_,_,e⟩:=uY hx;cases e
 have Q5:∀{x:Option (gz×MB)},nJ x=some (.round l args)→False:=fun{x} hx=>by unfold nJ at hx;split at hx<;>cases hx
 cases o<;>simp only[eY]at ho<;>first|(cases ho;done)|exact(xW ho).elim|exact(Q5 ho).elim|exact(gB (sU _) ho).elim|exact⟨_,rfl,ho⟩|skip
 case pick=>exact(gB (Kw _ _ _) ho).elim
 case build=>exact(gB (Ky _ _) ho).elim
 case load=>exact(gB (F6 _ _) ho).elim
 case nilCheck=>exact(gB (Kz _) ho).elim
 case binOp=>exact(gB (KA _ _ _ _) ho).elim
 case unOp=>exact(gB (KC _ _) ho).elim
 case makeFunc=>exact(gB (KD _ _ _) ho).elim
 case slice=>exact(gB (KE _ _ _ _ _) ho).elim
 case fieldAddr=>exact(gB (KF _ _ _) ho).elim
 case field=>exact(gB (KG _ _ _) ho).elim
 case indexAddr=>exact(gB (KH _ _ _) ho).elim
 case index=>exact(gB (KI _ _ _) ho).elim
 case lookup=>exact(gB (F7 _ _ _ _) ho).elim
 case extract=>exact(gB (KJ _ _) ho).elim
 case convert=>rcases F8 ho with⟨v,e⟩|⟨S,D,e,T,b,-,-,-,-,-,-,-,e⟩|⟨S,D,e1,e2,T,xv,-,-,-,-,-,-,-,-,hm⟩<;>first|cases e|(obtain⟨_,_,_,_,_,_,_,_,-,-,-,e⟩:=Dj hm;cases e)
theorem aan(hE:bM E P)(hev:eP σ V ev ρ)(o:Oper){f:FuncId}{args:List MV}(ho:eY E ev o.op h=some (.enter f args))(w:World) :
  E.ext f=none∧wfs σ V args∧∀F,E.fns.get f=some F→F.body.isSome=true→(execOp ρ o).run P w=.ok (.enter f ⟨aH σ args⟩) w:=by
 obtain⟨c,hop,hc⟩:=aom ho
 obtain⟨aaI,ha,hcase⟩:=KL hc
 obtain⟨a1,a2⟩:=Kr hev ha
 rcases hcase with⟨u,e⟩|⟨x,y,u,h2,-,-,e,-⟩|⟨x,y,u,h2,-,-,e,-⟩|⟨x,y,t,u,h2,-,-,e,-⟩|⟨fo,g,a,b,hcl,hf,hg,e⟩|⟨fo,l,-,-,e⟩<;>cases e
 obtain⟨f1,f2⟩:=hev fo _ hf
 simp only[wf]at f1
 refine⟨hg,yx.2 ⟨yx.2 ⟨f1.1,a1⟩,f1.2⟩,fun F hF hb=>?_⟩
 obtain⟨hF1,hF2⟩:=hE.fns f F hF
 unfold execOp;simp only[hop]
 have hres:(resolve ρ c o.type).run P w=.ok {target:=.fn (.func f) ⟨aH σ b⟩,args:=⟨aH σ a⟩++⟨aH σ aaI⟩} w:=by
  unfold resolve;simp only[hcl,a2,f2,af,Deferred.ofValue];rfl
 rw[Sem.bind_ok hres]
 unfold invoke callFunc
 simp only[]
 rw[Sem.bind_ok (show(program).run P w=.ok P w from rfl),hF1]
 simp only[]
 rw[if_neg (by simpa using hF2),if_neg (by simp[Option.isNone_iff_eq_none];intro e;rw[e]at hb;cases hb)]
 simp only[Sem.run_pure]
 congr 2
 rw[←Array.toList_inj]
 simp[dZ]
theorem aao(hev:eP σ V ev ρ)(o:Oper){l:Nat}{args:List MV}(ho:eY E ev o.op h=some (.round l args))(w:World) :
  V l∧wfs σ V args∧(execOp ρ o).run P w=(Instr.yield (σ l).blk ⟨aH σ args⟩).run P w:=by
 obtain⟨c,hop,hc⟩:=aon ho
 obtain⟨aaI,ha,hcase⟩:=KL hc
 obtain⟨a1,a2⟩:=Kr hev ha
 rcases hcase with⟨u,e⟩|⟨x,y,u,h2,-,-,e,-⟩|⟨x,y,u,h2,-,-,e,-⟩|⟨x,y,t,u,h2,-,-,e,-⟩|⟨fo,g,a,b,-,-,-,e⟩|⟨fo,l',hcl,hf,e⟩<;>cases e
 obtain⟨f1,f2⟩:=hev fo _ hf
 simp only[wf]at f1
 refine⟨f1,a1,?_⟩
 unfold execOp;simp only[hop]
 have hres:(resolve ρ c o.type).run P w=.ok {target:=.fn (.yield (σ l).blk) #[],args:=#[]++⟨aH σ args⟩} w:=by
  unfold resolve;simp only[hcl,a2,f2,af,Deferred.ofValue];rfl
 rw[Sem.bind_ok hres]
 unfold invoke
 simp
end ops
end Go.aY
namespace Go.aY
variable [O:dO]
open Go.RowKit
def yA(σ:Sg)(d:Nat):Deferred:={target:=.collected (σ d).blk,args:=#[]}
structure dw(σ:Sg)(V:Nat→Prop)(m:MA)(a:Act):Prop where
 tm:pJ σ V m.tmps m.nt a.tmps
 df:a.defers=m.defs.map (yA σ)
 dv:∀d∈m.defs,V d
theorem dw.jf{V V':Nat→Prop}{σ σ':Sg}{m:MA}{a:Act}(h:dI V σ σ')(hV:∀id,V id→V' id)(ha:dw σ V m a):dw σ' V' m a:=
 ⟨ha.tm.jf h hV,by rw[ha.df];exact List.map_congr_left fun d hd=>by simp only[yA,h d (ha.dv d hd)],fun d hd=>hV d (ha.dv d hd)⟩
theorem dw.put{σ:Sg}{V:Nat→Prop}{m:MA}{a:Act}(ha:dw σ V m a)(dst:Option Tmp){v:MV}(hv:wf σ V v):dw σ V (m.put dst v) (a.put dst (af σ v)):=by
 cases dst with
 |none=>exact ha
 |some d=>
  unfold MA.put Act.put
  cases hb:Nat.blt d m.nt with
  |true=>
   simp only[hb,cond_true]
   have hlt:=sS hb
   refine⟨⟨by simpa using ha.tm.size,fun k u hk=>?_⟩,ha.df,ha.dv⟩
   rw[Tr.get_put]at hk
   split at hk
   ·rename_i e
    cases hk
    refine⟨hv,?_⟩
    rw[e,Array.getElem?_setIfInBounds,if_pos rfl,if_pos (by rw[ha.tm.size];exact hlt)]
   ·rename_i e
    obtain⟨h1,h2⟩:=ha.tm.cell k u hk
    exact⟨h1,by rw[Array.getElem?_setIfInBounds_ne (Ne.symm e)];exact h2⟩
  |false=>
   simp only[hb,cond_false]
   have hge:¬d<m.nt:=fun hlt=>by rw[FZ hlt]at hb;cases hb
   have:a.tmps.setIfInBounds d (af σ v)=a.tmps:=by
    apply Array.ext_getElem?
    intro i
    rw[Array.getElem?_setIfInBounds]
    split
    ·rename_i e
     subst e
     rw[if_neg (by rw[ha.tm.size];exact hge)]
     rw[Array.getElem?_eq_none (by rw[ha.tm.size];exact Nat.le_of_not_lt hge)]
    ·rfl
   exact⟨by rw[this];exact ha.tm,ha.df,ha.dv⟩
def After(G:GB)(B:Nat→Prop)(W0:World)(σ:Sg)(V:Nat→Prop)(h h':MH)(w':World)(K:Sg→(Nat→Prop)→Prop):Prop:=
 ∃σ' V',dI V σ σ'∧(∀id,V id→V' id)∧(∀id,V' id→V id∨h.nx≤id)∧h.nx≤h'.nx∧Rel G B W0 σ' V' h' w'∧K σ' V'
theorem After.trans{G:GB}{B:Nat→Prop}{W0:World}{σ σ':Sg}{V V':Nat→Prop}{h h' h'':MH}{w':World}{K:Sg→(Nat→Prop)→Prop}
  (h1:dI V σ σ') (h2:∀id,V id→V' id) (h3:∀id,V' id→V id∨h.nx≤id) (h4:h.nx≤h'.nx) (ha:After G B W0 σ' V' h' h'' w' K):After G B W0 σ V h h'' w' K:=by
 obtain⟨σ2,V2,g1,g2,g3,g4,g5,g6⟩:=ha
 refine⟨σ2,V2,h1.trans h2 g1,fun id hid=>g2 id (h2 id hid),fun id hid=>?_,Nat.le_trans h4 g4,g5,g6⟩
 rcases g3 id hid with h|h
 ·exact h3 id h
 ·exact .inr (Nat.le_trans h4 h)
def Dn(G:GB)(B:Nat→Prop)(W0:World)(σ:Sg)(V:Nat→Prop)(h h':MH)(v:MV):Ending→World→Prop:=
 fun e w'=>After G B W0 σ V h h' w' fun σ' V'=>wf σ' V' v∧e=.returned (af σ' v)
def fence:Option Nat→Fence
 |none=>Fence.wide
 |some b=>Fence.wide.inRound b
omit O in
theorem yB(r:Option Nat)(f:FuncId):(fence r).fn f:=by cases r<;>trivial
omit O in
theorem Gh(r:Option Nat):(fence r).depth=none:=by cases r<;>rfl
omit O in
theorem aoo(r:Option Nat):(fence r).round=r:=by cases r<;>rfl
omit O in
theorem Q7{r:Option Nat}{n:Nat}{P:Program}{f:FuncId}{args:Array Value}{w:World}{R:Ending→World→Prop}(h:Calls P f args w R):CallsIn (fence r) n P f args w R:=by
 cases r with
 |none=>exact callsIn_wide.2 h
 |some b=>exact callsIn_wide.2 h
omit O in
theorem aap{r:Option Nat}{n:Nat}{P:Program}{l:Nat}{f:FuncId}{tmps:Array Value}{assign body:Code}{w:World}{R:Ending→World→Prop}
  (h:RoundIn Fence.wide n P l f tmps assign body w R):RoundIn (fence r) n P l f tmps assign body w R:=by
 cases r with
 |none=>exact h
 |some b=>exact h
def pM(E:Env)(P:Program)(B:Nat→Prop)(W0:World)(go:Task→MH→Option (MV×MH)):Prop:=
 (∀f args h v h',go (.call f args) h=some (v,h')→∃F,E.fns.get f=some F∧F.body.isSome=true∧
  ∀σ V w,Rel E.G B W0 σ V h w→wfs σ V args→Calls P f ⟨aH σ args⟩ w (Dn E.G B W0 σ V h h' v))∧
 (∀l args h v h',go (.round l args) h=some (v,h')→∀σ V w,Rel E.G B W0 σ V h w→V l→wfs σ V args→
  ∃f tm assign body,(Instr.yield (σ l).blk ⟨aH σ args⟩).run P w=.ok (.round (σ l).blk f tm assign body) w∧
   RoundIn Fence.wide 0 P (σ l).blk f tm assign body w (Dn E.G B W0 σ V h h' v))
section
variable {E:Env} {P:Program} {B:Nat→Prop} {W0:World} {σ:Sg} {V:Nat→Prop} {h:MH} {w:World}
theorem Dp(R:Rel E.G B W0 σ V h w){m:MA}{a:Act}(ha:dw σ V m a):eP σ V (m.eval E.G) a.eval:=by
 intro x v hx
 cases x with
 |tmp t=>
  obtain⟨h1,h2⟩:=ha.tm.cell t v hx
  refine⟨h1,?_⟩
  show a.tmps.getD t undef=_
  rw[Array.getD_eq_getD_getElem?,h2];rfl
 |const u=>
  obtain⟨h1,h2⟩:=FU σ V u v hx
  exact⟨h2,h1.symm⟩
 |global g=>
  simp only[MA.eval]at hx
  cases hb:Nat.blt g E.G.g0 with
  |false=>rw[hb]at hx;cases hx
  |true=>
   rw[hb]at hx
   cases hx
   obtain⟨h1,h2,h3⟩:=R.qI g (sS hb)
   refine⟨h1,?_⟩
   simp only[Act.eval,af,h2,h3]
 |func f=>
  simp only[MA.eval,Option.some.injEq]at hx
  subst hx
  exact⟨by simp only[wf,wfs];exact⟨trivial,trivial⟩,rfl⟩
theorem aop(hE:bM E P)(hW:∀k,B k→k<W0.heap.size){go:Task→MH→Option (MV×MH)}(hgo:pM E P B W0 go)(r:Option Nat){o:Oper}(hnd:∀c,o.op≠.defer c)
  (R:Rel E.G B W0 σ V h w) {m:MA} {a:Act} (ha:dw σ V m a) {v:MV} {h':MH} (ho:mF go h (eY E (m.eval E.G) o.op h)=some (v,h'))
  {K:Act→World→Prop} {Q:Exit→Act→World→Prop} (hK:∀a' w',After E.G B W0 σ V h h' w' (fun σ' V'=>dw σ' V' (m.put o.dst v) a')→K a' w') :
  o.wpIn (fence r) 0 P a w K Q:=by
 have hev:=Dp (E:=E) R ha
 unfold Oper.wpIn
 refine⟨fun f _=>yB r f,?_⟩
 rw[Oper.semAt_eq _ _ _ hnd]
 cases hm:eY E (m.eval E.G) o.op h with
 |none=>rw[hm]at ho;cases ho
 |some res=>
  rw[hm]at ho
  cases res with
  |val u=>
   simp only[mF,Option.some.injEq,Prod.mk.injEq]at ho
   obtain⟨rfl,rfl⟩:=ho
   obtain⟨h1,h2⟩:=look_ok hE R hev o hm
   rw[h2,Oper.uponIn_value]
   exact hK _ _ ⟨σ,V,dI.refl _ _,fun _ hx=>hx,fun _ hx=>.inl hx,Nat.le_refl _,R,ha.put o.dst h1⟩
  |new k b=>
   simp only[mF,Option.some.injEq,Prod.mk.injEq]at ho
   obtain⟨rfl,rfl⟩:=ho
   have kK:¬V h.nx:=fun hv=>Nat.lt_irrefl _ (R.vx _ hv)
   obtain⟨obj,h1,h2,h3⟩:=QV hE hev o hm kK w
   rw[h1,Oper.uponIn_value]
   have hag:=qJ (V:=V) σ ⟨w.heap.size,0,0⟩ kK
   exact hK _ _ ⟨_,_,hag,fun _ hx=>.inl hx,fun _ hx=>hx.imp (fun x=>x) (fun e=>Nat.le_of_eq e.symm),Nat.le_succ _,R.alloc (R.size hW) 0 0 h2,(ha.jf hag (fun _ hx=>.inl hx)).put o.dst h3⟩
  |upd u h1=>
   simp only[mF,Option.some.injEq,Prod.mk.injEq]at ho
   obtain⟨rfl,rfl⟩:=ho
   obtain⟨σ',V',w',g1,g2,g3,g4,g5,g6,g7⟩:=aam hE R hW hev o hm
   have key:=hK (a.put o.dst (af σ' u)) w' ⟨σ',V',g1,g2,g3,g4,g5,(ha.jf g1 g2).put o.dst g6⟩
   rcases g7 with g7|⟨rfl,g7⟩
   ·rw[g7,Oper.uponIn_value];exact key
   ·rw[g7,Oper.uponIn_skip]
    exact key
  |enter f args=>
   simp only[mF]at ho
   obtain⟨F,hF,hb,hcall⟩:=hgo.1 f args h v h' ho
   obtain⟨-,h2,h3⟩:=aan hE hev o hm w
   rw[h3 F hF hb,Oper.uponIn_enter]
   refine⟨fun hd=>(by rw[Gh]at hd;cases hd),Q7 ?_⟩
   refine(hcall σ V w R h2).mono ?_
   rintro e w' ⟨σ',V',g1,g2,g3,g4,g5,g6,rfl⟩
   exact hK _ _ ⟨σ',V',g1,g2,g3,g4,g5,(ha.jf g1 g2).put o.dst g6⟩
  |round l args=>
   simp only[mF]at ho
   obtain⟨h1,h2,h3⟩:=aao hev o hm w
   obtain⟨f,tm,assign,body,hy,D6⟩:=hgo.2 l args h v h' ho σ V w R h1 h2
   rw[h3,hy,Oper.uponIn_round]
   refine⟨fun hd=>(by rw[Gh]at hd;cases hd),aap ?_⟩
   refine D6.mono ?_
   rintro e w' ⟨σ',V',g1,g2,g3,g4,g5,g6,rfl⟩
   exact hK _ _ ⟨σ',V',g1,g2,g3,g4,g5,(ha.jf g1 g2).put o.dst g6⟩
theorem aaq{m:MA}{a:Act}(ha:dw σ V m a){ops:Array Oper}{o:Oper}{b:Bool}(hw:mD ops m o=some b):Region.wanted o (yielded ops a.tmps)=b:=by
 unfold mD at hw
 unfold Region.wanted
 split at hw
 ·rename_i hg
  cases hw
  simp only[hg]
 ·rename_i j want hg
  simp only[hg]
  split at hw
  ·rename_i g hgo
   rw[yw]at hgo
   split at hw
   ·rename_i d hd
    split at hw
    ·rename_i c hc
     cases hw
     obtain⟨-,h2⟩:=ha.tm.cell d _ hc
     unfold yielded
     simp only[hgo,Option.bind_some,hd,h2,af]
     cases c<;>cases want<;>rfl
    ·rename_i vs hc
     cases hw
     obtain⟨-,h2⟩:=ha.tm.cell d _ hc
     unfold yielded
     simp only[hgo,Option.bind_some,hd,h2,af]
     cases want<;>rfl
    ·cases hw
   ·cases hw
  ·cases hw
omit O in
theorem aoq{go:Task→MH→Option (MV×MH)}(ops:Array Oper)(o:Oper)(l:List Oper)(m:MA)(h:MH):CW E go ops (o::l) m h =
  (match mD ops m o with
  |some true=>match mF go h (eY E (m.eval E.G) o.op h)with
   |some (v,h')=>CW E go ops l (m.put o.dst v) h'
   |none=>none
  |some false=>CW E go ops l (m.put o.dst jM) h
  |none=>none):=rfl
theorem aor(hE:bM E P)(hW:∀k,B k→k<W0.heap.size){go:Task→MH→Option (MV×MH)}(hgo:pM E P B W0 go)(r:Option Nat)(ops:Array Oper){Q:Exit→Act→World→Prop} :
  ∀(l:List Oper),(∀o∈l,∀c,o.op≠.defer c)→∀(σ:Sg) (V:Nat→Prop) (h:MH) (w:World) (m m':MA) (h':MH) (a:Act),Rel E.G B W0 σ V h w→dw σ V m a→CW E go ops l m h=some (m',h')→
   (∀a' w',After E.G B W0 σ V h h' w' (fun σ' V'=>dw σ' V' m' a')→Q .normal a' w')→wpListIn (fence r) 0 P ops Q l a w:=by
 intro l
 induction l with
 |nil=>
  intro _ σ V h w m m' h' a R ha hr hQ
  have e:CW E go ops [] m h=some (m,h):=rfl
  rw[e]at hr;cases hr
  exact hQ a w ⟨σ,V,dI.refl _ _,fun _ hx=>hx,fun _ hx=>.inl hx,Nat.le_refl _,R,ha⟩
 |cons o l ih=>
  intro hnd σ V h w m m' h' a R ha hr hQ
  rw[aoq]at hr
  split at hr
  ·rename_i hw
   have hw':=aaq ha hw
   split at hr
   ·rename_i v h1 ho
    unfold wpListIn
    rw[if_pos hw']
    refine aop hE hW hgo r (hnd o (by simp)) R ha ho ?_
    rintro a1 w1 ⟨σ1,V1,g1,g2,g3,g4,g5,g6⟩
    exact ih (fun x hx=>hnd x (by simp[hx])) σ1 V1 h1 w1 _ m' h' a1 g5 g6 hr (fun a2 w2 hA=>hQ a2 w2 (hA.trans g1 g2 g3 g4))
   ·cases hr
  ·rename_i hw
   have hw':=aaq ha hw
   unfold wpListIn
   rw[if_neg (by rw[hw'];exact Bool.false_ne_true)]
   refine⟨fun f _=>yB r f,?_⟩
   exact ih (fun x hx=>hnd x (by simp[hx])) σ V h w _ m' h' _ R (ha.put o.dst Ad) hr hQ
  ·cases hr
end
end Go.aY
namespace Go.aY
variable [O:dO]
open Go.RowKit
section scope
variable {F:Fence} {n:Nat} {P:Program} {Q:Exit→Act→World→Prop} {a:Act} {w:World} {b:Frame} {k:List Item} {cs:List Frame}
omit O in
theorem nY{c:Code}:step P (lone (b.atR a (.code (.scope c)::k)) cs w)=.next (lone (b.atR a (.code c::.inScope c::k)) cs w):=
 step_lone_go (by simp[stepG,stepG.exec,Frame.atR])
omit O in
theorem IG{c:Code}:step P (lone (b.atR a (.inScope c::k)) cs w)=.next (lone (b.atR a k) cs w):=
 step_lone_go (by simp[stepG,stepG.exec,Frame.atR])
def noGoto(Q:Exit→Act→World→Prop):Exit→Act→World→Prop
 | .goto _,_,_=>False
 |e,a,w=>Q e a w
def aos(F:Fence)(n:Nat)(P:Program)(c:Code)(Q:Exit→Act→World→Prop):Exit→Act→World→Prop
 | .goto l,a,w=>∃c',findLabel c l=some c'∧c'.wpIn F n P (noGoto Q) a w
 |e,a,w=>Q e a w
omit O in
theorem aot{c c':Code}(h:c'.wpIn F n P (noGoto Q) a w)(hro:b.roundOf=F.round)(hb:F.fn b.fn)(hr:F.room (cs.length+1+n)) :
  ∃e a' w',Q e a' w'∧ArrivesIn (Machine.fenced P F) P (lone (b.atR a (.code c'::.inScope c::k)) cs w) b k cs e a' w':=by
 obtain⟨e,a₁,w₁,hq,harr⟩:=h b (.inScope c::k) cs hro hb hr
 cases e with
 |normal=>exact⟨.normal,a₁,w₁,hq,StepsIn.trans harr (.one (fenced_calm hb hr rfl) IG)⟩
 |exit id=>
  have hx:exitTo id (.inScope c::k)=exitTo id k:=by simp[exitTo]
  exact⟨.exit id,a₁,w₁,hq,fun k' hk=>harr.1 k' (by rw[hx];exact hk),fun hr' hk=>let⟨k₁,h1,h2⟩:=harr.2 hr' (by rw[hx];exact hk);⟨k₁,h1,h2⟩⟩
 |goto l=>exact hq.elim
 |ret=>exact⟨_,a₁,w₁,hq,harr⟩
 |panic ch=>exact⟨_,a₁,w₁,hq,harr⟩
 |outgrown=>exact⟨_,a₁,w₁,hq,harr⟩
omit O in
theorem aou{c:Code}(h:c.wpIn F n P (aos F n P c Q) a w):(Code.scope c).wpIn F n P Q a w:=by
 intro b k cs hro hb hr
 have h0:(lone (b.atR a (.code (.scope c)::k)) cs w).fenced P F:=fenced_calm hb hr rfl
 obtain⟨e,a₁,w₁,hq,harr⟩:=h b (.inScope c::k) cs hro hb hr
 cases e with
 |normal=>exact⟨.normal,a₁,w₁,hq,.head h0 nY (StepsIn.trans harr (.one (fenced_calm hb hr rfl) IG))⟩
 |exit id=>
  have hx:exitTo id (.inScope c::k)=exitTo id k:=by simp[exitTo]
  exact⟨.exit id,a₁,w₁,hq,fun k' hk=>.head h0 nY (harr.1 k' (by rw[hx];exact hk)),fun hr' hk=>let⟨k₁,h1,h2⟩:=harr.2 hr' (by rw[hx];exact hk);⟨k₁,h1,.head h0 nY h2⟩⟩
 |goto l=>
  obtain⟨c',hc',hw⟩:=hq
  have hs:=harr.1 (.code c'::.inScope c::k) (by simp[gotoIn,hc'])
  obtain⟨e,a2,w2,hq2,aov⟩:=aot (b:=b) (k:=k) (cs:=cs) (c:=c) hw hro hb hr
  exact⟨e,a2,w2,hq2,.of_steps (.head h0 nY hs) aov⟩
 |ret=>exact⟨_,a₁,w₁,hq,.of_steps (.one h0 nY) harr⟩
 |panic ch=>exact⟨_,a₁,w₁,hq,.of_steps (.one h0 nY) harr⟩
 |outgrown=>exact⟨_,a₁,w₁,hq,.of_steps (.one h0 nY) harr⟩
end scope
def ex:MX→Exit
 | .normal=>.normal
 | .exit id=>.exit id
 | .goto l=>.goto l
 | .ret=>.ret
def Q8(G:GB)(B:Nat→Prop)(W0:World)(σ:Sg)(V:Nat→Prop)(h:MH)(o:MO):Exit→Act→World→Prop:=
 fun e a' w'=>e=ex o.e∧After G B W0 σ V h o.h w' fun σ' V'=>dw σ' V' o.a a'
def Dq(σ:Sg)(V:Nat→Prop)(rd r:Option Nat):Prop:=
 (rd=none∧r=none)∨∃l,rd=some l∧V l∧r=some (σ l).blk
omit O in
theorem Dq.jf{V V':Nat→Prop}{σ σ':Sg}{rd r:Option Nat}(h:dI V σ σ')(hV:∀id,V id→V' id)(hr:Dq σ V rd r):Dq σ' V' rd r:=by
 rcases hr with hr|⟨l,h1,h2,h3⟩
 ·exact .inl hr
 ·exact .inr ⟨l,h1,hV l h2,by rw[h3,h l h2]⟩
section
variable {E:Env} {P:Program} {B:Nat→Prop} {W0:World}
def KO(E:Env)(P:Program)(B:Nat→Prop)(W0:World)(rd:Option Nat)(ih:Ih):Prop:=
 ∀c m h o,ih c m h=some o→∀σ V w a r,Rel E.G B W0 σ V h w→dw σ V m a→Dq σ V rd r→c.wpIn (fence r) 0 P (Q8 E.G B W0 σ V h o) a w
omit O in
theorem aow(body:MA→MH→Option MO)(n:Nat)(a:MA)(h:MH):JZ body (n+1) a h=(match body a h with
  |some ⟨.normal,a',h'⟩=>JZ body n a' h'
  |r=>r):=rfl
omit O in
theorem aox{F:Fence}{n:Nat}{c:Code}{Q Q':Exit→Act→World→Prop}(hq:∀e a w,Q e a w→Q' e a w):∀(k:Nat) (a:Act) (w:World),Code.roundsIn F n P c Q k a w→Code.roundsIn F n P c Q' k a w:=by
 intro k
 induction k with
 |zero=>intro a w h;exact h
 |succ k ih=>
  intro a w h
  rw[Code.roundsIn]at h ⊢
  refine wpIn_mono h ?_
  intro e a1 w1 he
  cases e<;>first|exact ih _ _ he|exact hq _ _ _ he
theorem aoy{rd:Option Nat}{ih:Ih}(hih:KO E P B W0 rd ih)(c:Code):∀(k:Nat) (m:MA) (h:MH) (o:MO),JZ (ih c) k m h=some o→
  ∀σ V w a r,Rel E.G B W0 σ V h w→dw σ V m a→Dq σ V rd r→Code.roundsIn (fence r) 0 P c (Q8 E.G B W0 σ V h o) k a w:=by
 intro k
 induction k with
 |zero=>intro m h o ho;cases ho
 |succ k ihk=>
  intro m h o ho σ V w a r R ha hr
  rw[aow]at ho
  rw[Code.roundsIn]
  split at ho
  ·rename_i m1 h1 hb
   refine wpIn_mono (hih c m h _ hb σ V w a r R ha hr) ?_
   rintro e a1 w1 ⟨rfl,σ1,V1,g1,g2,g3,g4,g5,g6⟩
   exact aox (fun e a2 w2 hq=>⟨hq.1,hq.2.trans g1 g2 g3 g4⟩) k a1 w1 (ihk m1 h1 o ho σ1 V1 w1 a1 r g5 g6 (hr.jf g1 g2))
  ·rename_i hn
   refine wpIn_mono (hih c m h o ho σ V w a r R ha hr) ?_
   rintro e a1 w1 ⟨rfl,hA⟩
   cases hoe:o.e with
   |normal=>exact absurd ho (by obtain⟨e,a',h'⟩:=o;simp only at hoe;subst hoe;exact hn _ _)
   |exit id=>exact⟨by rw[hoe],hA⟩
   |goto l=>exact⟨by rw[hoe],hA⟩
   |ret=>exact⟨by rw[hoe],hA⟩
omit O in
theorem Gi{w:World}{b:Nat}{r:Loop}(hb:w.heap[b]?=some (.loop r)):(Instr.getLoop b).run P w=.ok r w:=by
 unfold Instr.getLoop
 rw[Sem.bind_ok (run_getObj_loop (P:=P) hb)]
 rfl
theorem aoz{σ:Sg}{V:Nat→Prop}{h:MH}{w:World}{m:MA}{a:Act}{rd r:Option Nat}(hW:∀k,B k→k<W0.heap.size)(R:Rel E.G B W0 σ V h w)(ha:dw σ V m a)(hr:Dq σ V rd r)
  {ps:Array Tmp} {assign body:Code} {l:Nat} {m':MA} {h':MH} (ho:FN m ps.toList assign body rd h=some (l,m',h')) (fn:FuncId) :
  ∃mark w1 σ1 V1,(Instr.enterLoop fn a.tmps ps assign body r).run P w=.ok ((σ1 l).blk,mark) w1∧dI V σ σ1∧(∀id,V id→V1 id)∧(∀id,V1 id→V id∨h.nx≤id)∧h.nx≤h'.nx∧
   Rel E.G B W0 σ1 V1 h' w1∧V1 l∧dw σ1 V1 m' {a with defers:=mark++a.defers}:=by
 have kK:¬V h.nx:=fun hv=>Nat.lt_irrefl _ (R.vx _ hv)
 unfold FN at ho
 rcases hr with⟨rfl,rfl⟩|⟨l0,rfl,hv0,rfl⟩
 ·simp only[Option.some.injEq,Prod.mk.injEq]at ho
  obtain⟨rfl,rfl,rfl⟩:=ho
  have R1:Rel E.G B W0 (upd σ h.nx ⟨w.heap.size,0,0⟩) (iy V h.nx) (h.new .sG) (w.alloc (.deferred (some []))):=
   R.alloc (R.size hW) 0 0 (by show(w.alloc _).heap[_]?=_;rw[upd_same];exact uV w _)
  have a1:=qJ (V:=V) σ ⟨w.heap.size,0,0⟩ kK
  obtain⟨σ1,Q9⟩:∃σ1,upd σ h.nx ⟨w.heap.size,0,0⟩=σ1:=⟨_,rfl⟩
  obtain⟨w1,hw1⟩:∃w1,w.alloc (.deferred (some []))=w1:=⟨_,rfl⟩
  have hs1:(σ1 h.nx).blk=w.heap.size:=by rw[←Q9,upd_same]
  rw[Q9,hw1]at R1
  rw[Q9]at a1
  have hV1:iy V h.nx h.nx:=.inr rfl
  have aoA:¬iy V h.nx (h.nx+1):=by rintro(hv|hv);exact absurd (R.vx _ hv) (by omega);omega
  have a2:=qJ (V:=iy V h.nx) σ1 ⟨w1.heap.size,0,0⟩ aoA
  have KP:=(ha.tm.jf a1 (fun _ hx=>Or.inl hx):pJ σ1 (iy V h.nx) m.tmps m.nt a.tmps)
  let L:ML:=⟨.ready,none,m.tmps,m.nt,ps.toList,assign,body,h.nx⟩
  have R2:Rel E.G B W0 (upd σ1 (h.nx+1) ⟨w1.heap.size,0,0⟩) (iy (iy V h.nx) (h.nx+1)) ((h.new .sG).new (.loop L)) (w1.alloc (.loop {state:=.ready,pending:=none,fn,tmps:=a.tmps,params:=ps,assign,body,defers:=w.heap.size})):=by
   refine R1.alloc (R1.size hW) 0 0 ⟨a.tmps,fn,?_,KP.jf a2 (fun _ hx=>.inl hx),.inl hV1⟩
   show(w1.alloc _).heap[_]?=_
   rw[MH.amD,upd_same]
   refine(uV w1 _).trans ?_
   simp only[oL,L,a2 _ hV1,hs1]
  refine⟨[{target:=.collected w.heap.size,args:=#[]}],_,_,_,?_,a1.trans (fun _ hx=>.inl hx) a2,fun _ hx=>.inl (.inl hx),?_,by simp;omega,R2,.inr rfl,?_⟩
  ·unfold Instr.enterLoop
   simp only[upd_same]
   rw[Sem.bind_ok (anH _ w),hw1]
   simp only[pure_bind]
   rfl
  ·rintro id ((hv|hv)|hv)
   ·exact .inl hv
   ·exact .inr (by omega)
   ·exact .inr (by omega)
  ·refine⟨(KP.jf a2 (fun _ hx=>.inl hx)),?_,?_⟩
   ·simp only[List.map_cons,List.singleton_append,yA,a2 _ hV1,hs1,List.cons.injEq,true_and]
    rw[ha.df]
    exact List.map_congr_left fun d hd=>by
     have e1:=a1 d (ha.dv d hd)
     have e2:=a2 d (.inl (ha.dv d hd))
     simp only[yA,e2,e1]
   ·intro d hd
    rcases List.mem_cons.1 hd with rfl|hd
    ·exact .inl hV1
    ·exact .inl (.inl (ha.dv d hd))
 ·dsimp only at ho
  split at ho
  ·rename_i L0 hg
   simp only[Option.some.injEq,Prod.mk.injEq]at ho
   obtain⟨rfl,rfl,rfl⟩:=ho
   obtain⟨tm0,fn0,b1,b2,b3⟩:=R.blk l0 _ hv0 hg
   have a1:=qJ (V:=V) σ ⟨w.heap.size,0,0⟩ kK
   have R2:Rel E.G B W0 (upd σ h.nx ⟨w.heap.size,0,0⟩) (iy V h.nx) (h.new (.loop ⟨.ready,none,m.tmps,m.nt,ps.toList,assign,body,L0.defers⟩))
     (w.alloc (.loop {state:=.ready,pending:=none,fn,tmps:=a.tmps,params:=ps,assign,body,defers:=(σ L0.defers).blk})):=by
    refine R.alloc (R.size hW) 0 0 ⟨a.tmps,fn,?_,ha.tm.jf a1 (fun _ hx=>.inl hx),.inl b3⟩
    rw[upd_same]
    refine(uV w _).trans ?_
    simp only[oL,a1 _ b3]
   refine⟨[],_,_,_,?_,a1,fun _ hx=>.inl hx,fun _ hx=>hx.imp (fun x=>x) (fun e=>Nat.le_of_eq e.symm),Nat.le_succ _,R2,.inr rfl,?_⟩
   ·unfold Instr.enterLoop
    simp only[upd_same]
    rw[Sem.bind_ok (Gi (P:=P) b1)]
    simp only[pure_bind,oL]
    rfl
   ·exact(ha.jf a1 (fun _ hx=>Or.inl hx):dw _ (iy V h.nx) m a)
  ·cases ho
end
end Go.aY
namespace Go.aY
variable [O:dO]
open Go.RowKit
section
variable {E:Env} {P:Program} {B:Nat→Prop} {W0:World}
def Dt(E:Env)(P:Program)(B:Nat→Prop)(W0:World)(go:Task→MH→Option (MV×MH)):Prop:=
 ∀(id:Nat) (ops:Array Oper) (l:List PE) (m m':MA) (h h':MH),JY ops=some l→lG E go ops l [] m h=some (m',h')→∀σ V w a r,Rel E.G B W0 σ V h w→dw σ V m a→
  (Code.region id ops true).wpIn (fence r) 0 P (fun e a' w'=>e=.normal∧After E.G B W0 σ V h h' w' fun σ' V'=>dw σ' V' m' a') a w
theorem aoB{σ:Sg}{V:Nat→Prop}{h:MH}{w:World}{m:MA}{l:Nat}{o:MO}(R:Rel E.G B W0 σ V h w)(hG:E.G.ro≤l)(hl:V l)(ho:Qr l m h=some o) :
  ∃jump w',(Instr.endLoop (σ l).blk).run P w=.ok jump w'∧CY jump=some o.e∧o.a=m∧o.h.nx=h.nx∧Rel E.G B W0 σ V o.h w':=by
 unfold Qr at ho
 split at ho
 ·rename_i L hg
  obtain⟨tm,fn,b1,b2,b3⟩:=R.blk l _ hl hg
  have fin:∀e,L.state≠.busy→CY L.pending=some e→o=⟨e,m,h.set l (.loop {L with state:=.exhausted})⟩→_:=fun e hs he hoe=>
   (show ∃jump w',(Instr.endLoop (σ l).blk).run P w=.ok jump w'∧CY jump=some o.e∧o.a=m∧o.h.nx=h.nx∧Rel E.G B W0 σ V o.h w' by
    subst hoe
    refine⟨L.pending,w.putObj (σ l).blk (.loop (oL σ {L with state:=.exhausted} tm fn)),?_,he,rfl,rfl,R.write hl hg rfl hG _ ⟨tm,fn,World.putObj_heap_same (R.lt hl hg rfl),b2,b3⟩⟩
    unfold Instr.endLoop
    rw[Sem.bind_ok (Gi (P:=P) b1)]
    rw[if_neg (by simp only[oL];simpa using hs)]
    rw[Sem.bind_ok (run_setObj_loop (P:=P) _ b1)]
    rfl)
  split at ho
  ·cases ho
  ·rename_i hs
   split at ho
   ·rename_i e he
    exact fin e hs he (Option.some.inj ho).symm
   ·cases ho
 ·cases ho
theorem aoC(hE:bM E P)(hW:∀k,B k→k<W0.heap.size){go:Task→MH→Option (MV×MH)}(hgo:pM E P B W0 go)(hd:Dt E P B W0 go)(rd:Option Nat){ih:Ih}
  (hih:KO E P B W0 rd ih):KO E P B W0 rd (yg E go rd ih):=by
 intro c m h o ho σ V w a r R ha hr
 have here:∀e,o=⟨e,m,h⟩→Q8 E.G B W0 σ V h o (ex e) a w:=fun e he=>by
  subst he;exact⟨rfl,σ,V,dI.refl _ _,fun _ hx=>hx,fun _ hx=>.inl hx,Nat.le_refl _,R,ha⟩
 cases c with
 |skip=>exact wpIn_skip (here .normal (Option.some.inj ho).symm)
 |label l=>exact wpIn_label (here .normal (Option.some.inj ho).symm)
 |ret=>exact wpIn_ret (here .ret (Option.some.inj ho).symm)
 |exit id=>exact wpIn_exit (here (.exit id) (Option.some.inj ho).symm)
 |goto l=>exact wpIn_goto (here (.goto l) (Option.some.inj ho).symm)
 |refuse why=>cases ho
 |seq x y=>
  simp only[yg,ZC]at ho
  refine wpIn_seq ?_
  split at ho
  ·rename_i m1 h1 hx
   refine wpIn_mono (hih x m h _ hx σ V w a r R ha hr) ?_
   rintro e a1 w1 ⟨rfl,σ1,V1,g1,g2,g3,g4,g5,g6⟩
   exact wpIn_mono (hih y m1 h1 o ho σ1 V1 w1 a1 r g5 g6 (hr.jf g1 g2)) (fun e a2 w2 hq=>⟨hq.1,hq.2.trans g1 g2 g3 g4⟩)
  ·rename_i hn
   refine wpIn_mono (hih x m h o ho σ V w a r R ha hr) ?_
   rintro e a1 w1 ⟨rfl,hA⟩
   cases hoe:o.e with
   |normal=>exact absurd ho (by obtain⟨e,a',h'⟩:=o;simp only at hoe;subst hoe;exact hn _ _)
   |exit id=>exact⟨by rw[hoe],hA⟩
   |goto l=>exact⟨by rw[hoe],hA⟩
   |ret=>exact⟨by rw[hoe],hA⟩
 |cond c x y=>
  simp only[yg,ZE]at ho
  split at ho
  ·rename_i b hc
   have:=(Dp R ha c _ hc).2
   refine wpIn_cond (t:=b) this ?_
   have:=hih _ m h o ho σ V w a r R ha hr
   cases b<;>exact this
  ·cases ho
 |block id c=>
  simp only[yg,ZF]at ho
  refine wpIn_block ?_
  split at ho
  ·rename_i id' m1 h1 hx
   cases ho
   refine wpIn_mono (hih c m h _ hx σ V w a r R ha hr) ?_
   rintro e a1 w1 ⟨rfl,hA⟩
   simp only[ex,Exit.inBlock]
   cases hb:Nat.beq id' id with
   |true=>
    have:=Nat.eq_of_beq_eq_true hb
    rw[if_pos this]
    exact⟨rfl,hA⟩
   |false=>
    have:id'≠id:=fun e=>by subst e;rw[Nat.beq_refl]at hb;cases hb
    rw[if_neg this]
    exact⟨rfl,hA⟩
  ·rename_i hn
   refine wpIn_mono (hih c m h o ho σ V w a r R ha hr) ?_
   rintro e a1 w1 ⟨rfl,hA⟩
   cases hoe:o.e with
   |normal=>exact⟨by rw[hoe],hA⟩
   |exit id'=>exact absurd ho (by obtain⟨e,a',h'⟩:=o;simp only at hoe;subst hoe;exact hn _ _ _)
   |goto l=>exact⟨by rw[hoe],hA⟩
   |ret=>exact⟨by rw[hoe],hA⟩
 |loop c=>exact wpIn_loop_rounds 100000 (aoy hih c 100000 m h o ho σ V w a r R ha hr)
 |scope c=>
  simp only[yg,ZG]at ho
  refine aou ?_
  split at ho
  ·rename_i l m1 h1 hx
   split at ho
   ·rename_i c' hc'
    refine wpIn_mono (hih c m h _ hx σ V w a r R ha hr) ?_
    rintro e a1 w1 ⟨rfl,σ1,V1,g1,g2,g3,g4,g5,g6⟩
    refine⟨c',hc',?_⟩
    split at ho
    ·cases ho
    ·rename_i hn
     refine wpIn_mono (hih c' m1 h1 o ho σ1 V1 w1 a1 r g5 g6 (hr.jf g1 g2)) ?_
     rintro e a2 w2 ⟨rfl,hA⟩
     have hA:=hA.trans g1 g2 g3 g4
     cases hoe:o.e with
     |normal=>exact⟨by rw[hoe],hA⟩
     |exit id'=>exact⟨by rw[hoe],hA⟩
     |goto l'=>exact absurd ho (by obtain⟨e,a',h'⟩:=o;simp only at hoe;subst hoe;exact hn _ _ _)
     |ret=>exact⟨by rw[hoe],hA⟩
   ·cases ho
  ·rename_i hn
   refine wpIn_mono (hih c m h o ho σ V w a r R ha hr) ?_
   rintro e a1 w1 ⟨rfl,hA⟩
   cases hoe:o.e with
   |normal=>exact⟨by rw[hoe],hA⟩
   |exit id'=>exact⟨by rw[hoe],hA⟩
   |goto l'=>exact absurd ho (by obtain⟨e,a',h'⟩:=o;simp only at hoe;subst hoe;exact hn _ _ _)
   |ret=>exact⟨by rw[hoe],hA⟩
 |region id ops draw=>
  simp only[yg,ZH]at ho
  split at ho
  ·rename_i m1 h1 hx
   cases ho
   cases draw with
   |true=>
    simp only[cond_true]at hx
    split at hx
    ·rename_i l hl
     exact hd id ops l m m1 h h1 hl hx σ V w a r R ha
    ·cases hx
   |false=>
    simp only[cond_false]at hx
    cases hns:ops.toList.all zT with
    |false=>rw[hns]at hx;cases hx
    |true=>
     rw[hns]at hx
     simp only[cond_true]at hx
     refine wpIn_region_list (aor hE hW hgo r ops ops.toList (fun o ho c hc=>?_) σ V h w m m1 h1 a R ha hx (fun a' w' hA=>⟨rfl,hA⟩))
     have:=List.all_eq_true.1 hns o ho
     simp[zT,hc]at this
  ·cases ho
 |rangeFunc f ps assign body=>
  simp only[yg,ZI]at ho
  split at ho
  ·rename_i g first captured hf
   obtain⟨f1,f2⟩:=Dp R ha f _ hf
   simp only[wf]at f1
   split at ho
   ·rename_i l m1 h1 asj hent
    split at ho
    ·rename_i u h2 hcall
     refine wpIn_rangeFunc ?_
     intro fn _
     obtain⟨mark,w1,σ1,V1,e1,g1,g2,g3,g4,g5,g6,g7⟩:=aoz (P:=P) hW R ha hr hent fn
     obtain⟨F,hF,hbody,aoD⟩:=hgo.1 g _ h1 u h2 hcall
     obtain⟨hF1,hF2⟩:=hE.fns g F hF
     have aoE:wfs σ1 V1 (first++[.dh l]++captured):=yx.2 ⟨yx.2 ⟨sO g1 g2 _ f1.1,by simp only[wfs];exact⟨g6,trivial⟩⟩,sO g1 g2 _ f1.2⟩
     have hlG:E.G.ro≤l:=by
      rcases hr with⟨rfl,-⟩|⟨l0,rfl,-,-⟩
      ·simp only[FN,Option.some.injEq,Prod.mk.injEq]at hent
       obtain⟨rfl,-,-⟩:=hent
       exact Nat.le_succ_of_le R.gx
      ·simp only[FN]at hent
       split at hent
       ·simp only[Option.some.injEq,Prod.mk.injEq]at hent
        obtain⟨rfl,-,-⟩:=hent
        exact R.gx
       ·cases hent
     have hres:(resolve a.eval (rangeCall f (σ1 l).blk) 0).run P w1=.ok {target:=.fn (.func g) ⟨aH σ1 captured⟩,args:=⟨aH σ1 first⟩++#[.func (.yield (σ1 l).blk) #[] #[]]} w1:=by
      unfold resolve
      simp only[f2,af,Deferred.ofValue]
      rw[zX g1 _ f1.1,zX g1 _ f1.2]
      simp[Act.eval]
     have hinv:(invoke (.fn (.func g) ⟨aH σ1 captured⟩) (⟨aH σ1 first⟩++#[.func (.yield (σ1 l).blk) #[] #[]])).run P w1=.ok (.enter g ⟨aH σ1 (first++[.dh l]++captured)⟩) w1:=by
      unfold invoke callFunc
      simp only[]
      rw[Sem.bind_ok (show(program).run P w1=.ok P w1 from rfl),hF1]
      simp only[]
      rw[if_neg (by simpa using hF2),if_neg (by simp[Option.isNone_iff_eq_none];intro e;rw[e]at hbody;cases hbody)]
      simp only[Sem.run_pure]
      congr 2
      rw[←Array.toList_inj]
      simp[dZ,af]
     refine⟨(σ1 l).blk,mark,w1,_,w1,g,_,w1,by rw[aoo];exact e1,hres,fun f' _=>yB r f',hinv,fun hd=>(by rw[Gh]at hd;cases hd),Q7 ?_⟩
     refine(aoD σ1 V1 w1 g5 aoE).mono ?_
     rintro e w2 ⟨σ2,V2,k1,k2,k3,k4,k5,k6,rfl⟩
     obtain⟨jump,w3,j1,j2,j3,j4,j5⟩:=aoB (P:=P) k5 hlG (k2 l g6) ho
     have hl2:(σ2 l).blk=(σ1 l).blk:=by rw[k1 l g6]
     rw[hl2]at j1
     refine⟨jump,w3,j1,?_⟩
     have hA:After E.G B W0 σ V h o.h w3 (fun σ' V'=>dw σ' V' o.a {a with defers:=mark++a.defers}):=by
      refine After.trans g1 g2 g3 g4 (After.trans k1 k2 k3 k4 ?_)
      exact⟨σ2,V2,dI.refl _ _,fun _ hx=>hx,fun _ hx=>.inl hx,Nat.le_of_eq j4.symm,j5,by rw[j3];exact g7.jf k1 k2⟩
     cases jump with
     |none=>
      simp only[CY,Option.some.injEq]at j2
      exact⟨by rw[←j2];rfl,hA⟩
     |some c=>
      dsimp only
      cases c<;>simp only[CY]at j2<;>first|(cases j2;done)|skip
      ·rename_i id
       exact wpIn_exit ⟨by rw[←Option.some.inj j2];rfl,hA⟩
      ·rename_i l'
       exact wpIn_goto ⟨by rw[←Option.some.inj j2];rfl,hA⟩
      ·exact wpIn_ret ⟨by rw[←Option.some.inj j2];rfl,hA⟩
    ·cases ho
   ·cases ho
  ·cases ho
theorem Rf(hE:bM E P)(hW:∀k,B k→k<W0.heap.size){go:Task→MH→Option (MV×MH)}(hgo:pM E P B W0 go)(hd:Dt E P B W0 go)(rd:Option Nat) :
  ∀n,KO E P B W0 rd (code E go rd n):=by
 intro n
 induction n with
 |zero=>intro c m h o ho;cases ho
 |succ n ih=>exact aoC hE hW hgo hd rd ih
end
end Go.aY
