/- A part of the proof. -/
import Derived.Test.YtibhckkjciflaaaGreatDoorA02
import Derived.RangeFuncRecord
namespace Go.aI
section lists
variable {α:Type}
theorem uZ(l:List α):∀n,iU l n=l[n]?:=by
 induction l with
 |nil=>intro n;rfl
 |cons a l ih=>intro n;cases n with
  |zero=>rfl
  |succ n=>exact(ih n).trans (by simp)
theorem UR(l:List α):∀n v,KN l n v=l.set n v:=by
 induction l with
 |nil=>intro n v;rfl
 |cons a l ih=>intro n v;cases n with
  |zero=>rfl
  |succ n=>exact congrArg (a::·) (ih n v)
theorem UT(l:List α):∀n,KO l n=l.eraseIdx n:=by
 induction l with
 |nil=>intro n;rfl
 |cons a l ih=>intro n;cases n with
  |zero=>rfl
  |succ n=>exact congrArg (a::·) (ih n)
theorem CG(n:Nat):∀l:List α,uN n l=l.drop n:=by
 induction n with
 |zero=>intro l;rfl
 |succ n ih=>intro l;cases l with
  |nil=>rfl
  |cons a l=>exact ih l
theorem agT(n:Nat)(a:α)(l:List α):kP (n+1) (a::l)=(kP n l).map (a::·):=by
 show(Option.rec none (fun r=>some (a::r)) (kP n l):Option (List α))=_
 cases kP n l<;>rfl
theorem LG(n:Nat):∀l:List α,kP n l=if n≤l.length then some (l.take n)else none:=by
 induction n with
 |zero=>intro l;simp;rfl
 |succ n ih=>intro l;cases l with
  |nil=>rfl
  |cons a l=>rw[agT,ih l];by_cases h:n≤l.length<;>simp[h]
theorem sU{n:Nat}{l r:List α}(h:kP n l=some r):n≤l.length∧r=l.take n:=by
 rw[LG]at h
 split at h
 ·rename_i hn;exact⟨hn,(Option.some.inj h).symm⟩
 ·cases h
theorem jl(l:List α):∀n,dC l n=l.length+n:=by
 induction l with
 |nil=>intro n;simp;rfl
 |cons a l ih=>intro n;exact(ih _).trans (by simp;omega)
theorem zG(n:Nat)(l:List α):BU n l=(List.replicate n l).flatten:=by
 induction n with
 |zero=>rfl
 |succ n ih=>exact(congrArg (l++·) ih).trans (by simp[List.replicate_succ])
theorem agU(vs:List α):∀(l:List α),vs.length≤l.length→(BR vs l).length=l.length∧∀i,(BR vs l)[i]?=if i<vs.length then vs[i]? else l[i]?:=by
 induction vs with
 |nil=>intro l _;exact⟨rfl,fun i=>by simp;rfl⟩
 |cons v vs ih=>intro l h;cases l with
  |nil=>simp at h
  |cons a l=>
   obtain⟨h1,h2⟩:=ih l (by simpa using h)
   refine⟨by show(v::BR vs l).length=_;simp[h1],fun i=>?_⟩
   show(v::BR vs l)[i]?=_
   cases i with
   |zero=>simp
   |succ i=>simp[h2 i]
theorem mr(n:Nat)(vs:List α):∀(l:List α),n+vs.length≤l.length→(jD n vs l).length=l.length∧
  ∀i,(jD n vs l)[i]?=if n≤i∧i<n+vs.length then vs[i-n]? else l[i]?:=by
 induction n with
 |zero=>intro l h;obtain⟨h1,h2⟩:=agU vs l (by omega);exact⟨h1,fun i=>(h2 i).trans (by simp)⟩
 |succ n ih=>intro l h;cases l with
  |nil=>simp at h
  |cons a l=>
   obtain⟨h1,h2⟩:=ih l (by simp at h;omega)
   refine⟨by show(a::jD n vs l).length=_;simp[h1],fun i=>?_⟩
   show(a::jD n vs l)[i]?=_
   cases i with
   |zero=>simp
   |succ i=>
    simp only[List.getElem?_cons_succ,h2 i]
    by_cases hc:n≤i∧i<n+vs.length
    ·rw[if_pos hc,if_pos (by omega)];congr 1;omega
    ·rw[if_neg hc,if_neg (by omega)]
end lists
def kC.dec:kC→Nat
 | .e=>0
 | .l p=>2*p.dec+1
 | .r p=>2*p.dec+2
theorem agV(n k:Nat):xg (n+1) k=Bool.rec (Bool.rec (.r (xg n ((k-1) / 2))) (.l (xg n ((k-1) / 2))) (Nat.beq (k % 2) 1)) .e (Nat.beq k 0):=rfl
theorem agW:∀(n k:Nat),k<n→(xg n k).dec=k:=by
 intro n
 induction n with
 |zero=>intro k h;omega
 |succ n ih=>
  intro k h
  rw[agV]
  cases h0:Nat.beq k 0 with
  |true=>have:=Nat.eq_of_beq_eq_true h0;subst this;rfl
  |false=>
   have hk:k≠0:=fun hk=>by subst hk;cases h0
   cases h1:Nat.beq (k % 2) 1 with
   |true=>
    have:=Nat.eq_of_beq_eq_true h1
    show 2*(xg n ((k-1) / 2)).dec+1=k
    rw[ih _ (by omega)];omega
   |false=>
    have:k % 2≠1:=fun hk=>by rw[hk]at h1;cases h1
    show 2*(xg n ((k-1) / 2)).dec+2=k
    rw[ih _ (by omega)];omega
theorem LH(k:Nat):(yQ k).dec=k:=agW _ _ (Nat.lt_succ_self k)
theorem agX{k k':Nat}(h:yQ k=yQ k'):k=k':=by rw[←LH k,h,LH]
namespace Tr
variable {α:Type}
theorem ve(p:kC):gP p (.nil:Tr α)=none:=by cases p<;>rfl
theorem agY(p:kC)(v:α):∀(q:kC) (t:Tr α),gP q (sP p v t)=if q=p then some v else gP q t:=by
 induction p with
 |e=>intro q t;cases t<;>cases q<;>first|rfl|exact ve _
 |l p ih=>
  intro q t
  cases t with
  |nil=>
   cases q with
   |e=>rfl
   |l q=>show gP q (sP p v .nil)=_;rw[ih,ve,ve];simp only[kC.l.injEq]
   |r q=>show gP q .nil=_;rw[ve];rfl
  |node l a r=>
   cases q with
   |e=>rfl
   |l q=>show gP q (sP p v l)=_;rw[ih];simp only[kC.l.injEq];rfl
   |r q=>rfl
 |r p ih=>
  intro q t
  cases t with
  |nil=>
   cases q with
   |e=>rfl
   |r q=>show gP q (sP p v .nil)=_;rw[ih,ve,ve];simp only[kC.r.injEq]
   |l q=>show gP q .nil=_;rw[ve];rfl
  |node l a r=>
   cases q with
   |e=>rfl
   |r q=>show gP q (sP p v r)=_;rw[ih];simp only[kC.r.injEq];rfl
   |l q=>rfl
theorem get_put(t:Tr α)(k:Nat)(v:α)(k':Nat):(t.put k v).get k'=if k'=k then some v else t.get k':=by
 unfold get put
 rw[agY]
 by_cases h:k'=k
 ·subst h;simp
 ·rw[if_neg h,if_neg (fun e=>h (agX e))]
theorem get_nil(k:Nat):(.nil:Tr α).get k=none:=ve _
end Tr
theorem MH.vg(h:MH)(id:Nat)(b:MB)(k:Nat):(h.set id b).get k=if k=id then some b else h.get k:=Tr.get_put _ _ _ _
theorem MH.xA(h:MH)(b:MB)(k:Nat):(h.new b).get k=if k=h.nx then some b else h.get k:=Tr.get_put _ _ _ _
@[simp] theorem MH.UU (h:MH) (id:Nat) (b:MB):(h.set id b).nx=h.nx:=rfl
@[simp] theorem MH.agZ (h:MH) (b:MB):(h.new b).nx=h.nx+1:=rfl
class dw where
 val:Nat→Value
 single:∀i,(val i).cells=#[val i]
 one:∀i,(val i).oneCell'=true
variable [O:dw]
structure RI where
 blk:Nat
 off:Nat
 cap:Nat
abbrev Sg:=Nat→RI
def bytesV(s:List Nat):ByteArray:=⟨(s.map UInt8.ofNat).toArray⟩
mutual
def ae(σ:Sg):MV→Value
 | .bool b=>.bool b
 | .int k n=>.int k n
 | .str s=>.string (bytesV s)
 | .dB=>.pointer none
 | .ptr id off=>.pointer (some ⟨(σ id).blk,(σ id).off+off,none⟩)
 | .bC=>.slice none 0 0
 | .sl id off len cap=>.slice (some ⟨(σ id).blk,(σ id).off+off,none⟩) len cap
 | .bQ id off l len=>.slice (some ⟨(σ id).blk,(σ id).off+off,none⟩) len ((σ id).cap-l)
 | .sle id a b l=>.slice (some ⟨(σ id).blk,(σ id).off+(if(σ id).cap=l then a else b),none⟩) 0 ((σ id).cap-l)
 | .bV=>.map none
 | .mp id=>.map (some (σ id).blk)
 | .fn f a b=>.func (.func f) ⟨aF σ a⟩ ⟨aF σ b⟩
 | .dh id=>.func (.yield (σ id).blk) #[] #[]
 | .di=>.nilFunc
 | .dR=>.nilIface
 | .opq i=>O.val i
 | .agg cs=>.agg ⟨aF σ cs⟩
 | .bY vs=>.tuple ⟨aF σ vs⟩
def aF(σ:Sg):List MV→List Value
 | []=>[]
 |v::vs=>ae σ v::aF σ vs
end
theorem dS(σ:Sg)(l:List MV):aF σ l=l.map (ae σ):=by
 induction l with
 |nil=>rfl
 |cons a l ih=>simp[aF,ih]
mutual
def wf(σ:Sg)(V:Nat→Prop):MV→Prop
 | .str s=>∀b∈s,b<256
 | .ptr id _=>V id
 | .sl id _ len cap=>V id∧len≤cap
 | .bQ id _ l len=>V id∧l+len≤(σ id).cap
 | .sle id _ _ l=>V id∧l≤(σ id).cap
 | .mp id=>V id
 | .dh id=>V id
 | .fn _ a b=>wfs σ V a∧wfs σ V b
 | .agg cs=>wfs σ V cs∧ones cs=true
 | .bY vs=>wfs σ V vs
 |_=>True
def wfs(σ:Sg)(V:Nat→Prop):List MV→Prop
 | []=>True
 |v::vs=>wf σ V v∧wfs σ V vs
end
omit O in
theorem fP{σ:Sg}{V:Nat→Prop}(l:List MV):wfs σ V l↔∀v∈l,wf σ V v:=by
 induction l with
 |nil=>simp[wfs]
 |cons a l ih=>simp[wfs,ih]
omit O in
theorem iq(l:List MV):ones l=true↔∀v∈l,one v=true:=by
 induction l with
 |nil=>simp[ones]
 |cons a l ih=>simp[ones,ih]
def dJ(V:Nat→Prop)(σ σ':Sg):Prop:=∀id,V id→σ' id=σ id
mutual
theorem qH{V:Nat→Prop}{σ σ':Sg}(h:dJ V σ σ'):∀v,wf σ V v→ae σ' v=ae σ v
 | .bool _,_ | .int _ _,_ | .str _,_ | .dB,_ | .bC,_ | .bV,_ | .di,_ | .dR,_ | .opq _,_=>rfl
 | .ptr id _,hw=>by simp only[wf]at hw;simp only[ae,h id hw]
 | .sl id _ _ _,hw=>by simp only[wf]at hw;simp only[ae,h id hw.1]
 | .bQ id _ _ _,hw=>by simp only[wf]at hw;simp only[ae,h id hw.1]
 | .sle id _ _ _,hw=>by simp only[wf]at hw;simp only[ae,h id hw.1]
 | .mp id,hw=>by simp only[wf]at hw;simp only[ae,h id hw]
 | .dh id,hw=>by simp only[wf]at hw;simp only[ae,h id hw]
 | .fn f a b,hw=>by simp only[wf]at hw;simp only[ae,xB h a hw.1,xB h b hw.2]
 | .agg cs,hw=>by simp only[wf]at hw;simp only[ae,xB h cs hw.1]
 | .bY vs,hw=>by simp only[wf]at hw;simp only[ae,xB h vs hw]
theorem xB{V:Nat→Prop}{σ σ':Sg}(h:dJ V σ σ'):∀l,wfs σ V l→aF σ' l=aF σ l
 | [],_=>rfl
 |v::vs,hw=>by simp only[wfs]at hw;simp only[aF,qH h v hw.1,xB h vs hw.2]
end
end Go.aI
namespace Go.aI
mutual
theorem zH{V V':Nat→Prop}{σ σ':Sg}(h:dJ V σ σ')(hV:∀id,V id→V' id):∀v,wf σ V v→wf σ' V' v
 | .bool _,_ | .int _ _,_ | .dB,_ | .bC,_ | .bV,_ | .di,_ | .dR,_ | .opq _,_=>trivial
 | .str _,hw=>by simp only[wf]at hw ⊢;exact hw
 | .ptr id _,hw=>by simp only[wf]at hw ⊢;exact hV _ hw
 | .sl id _ _ _,hw=>by simp only[wf]at hw ⊢;exact⟨hV _ hw.1,hw.2⟩
 | .bQ id _ _ _,hw=>by simp only[wf]at hw ⊢;exact⟨hV _ hw.1,by rw[h id hw.1];exact hw.2⟩
 | .sle id _ _ _,hw=>by simp only[wf]at hw ⊢;exact⟨hV _ hw.1,by rw[h id hw.1];exact hw.2⟩
 | .mp id,hw=>by simp only[wf]at hw ⊢;exact hV _ hw
 | .dh id,hw=>by simp only[wf]at hw ⊢;exact hV _ hw
 | .fn f a b,hw=>by simp only[wf]at hw ⊢;exact⟨pV h hV a hw.1,pV h hV b hw.2⟩
 | .agg cs,hw=>by simp only[wf]at hw ⊢;exact⟨pV h hV cs hw.1,hw.2⟩
 | .bY vs,hw=>by simp only[wf]at hw ⊢;exact pV h hV vs hw
theorem pV{V V':Nat→Prop}{σ σ':Sg}(h:dJ V σ σ')(hV:∀id,V id→V' id):∀l,wfs σ V l→wfs σ' V' l
 | [],_=>trivial
 |v::vs,hw=>by simp only[wfs]at hw ⊢;exact⟨zH h hV v hw.1,pV h hV vs hw.2⟩
end
variable [O:dw]
theorem CJ(σ:Sg)(v:MV):(ae σ v).cells=⟨aF σ v.cells⟩:=by
 cases v<;>first
  |(simp[ae,Value.cells,MV.cells,aF];done)
  |(simp only[ae,MV.cells,aF];exact O.single _)
omit O in
theorem FU{σ:Sg}{V:Nat→Prop}{v:MV}(h:wf σ V v):wfs σ V v.cells:=by
 cases v<;>simp only[MV.cells,wfs,and_true]<;>first|exact h|(simp only[wf]at h;exact h.1)
mutual
theorem CO(σ:Sg)(V:Nat→Prop):∀(v:Value) (m:MV),jk v=some m→ae σ m=v∧wf σ V m
 | .bool b,m,h=>by simp only[jk,Option.some.injEq]at h;subst h;exact⟨rfl,trivial⟩
 | .int k n,m,h=>by simp only[jk,Option.some.injEq]at h;subst h;exact⟨rfl,trivial⟩
 | .string s,m,h=>by
  simp only[jk,Option.some.injEq]at h;subst h
  constructor
  ·simp only[ae,bytesV,List.map_map]
   congr 1
   obtain⟨⟨l⟩⟩:=s
   congr 1
   have:(ByteArray.mk ⟨l⟩).toList=l:=by simp
   rw[this]
   congr 1
   conv=>rhs;rw[←List.map_id l]
   congr 1
   funext x;simp
  ·simp only[wf,List.mem_map]
   rintro b ⟨x,-,rfl⟩
   exact x.toNat_lt
 | .pointer none,m,h=>by simp only[jk,Option.some.injEq]at h;subst h;exact⟨rfl,trivial⟩
 | .pointer (some _),m,h=>by simp[jk]at h
 | .slice none 0 0,m,h=>by simp only[jk,Option.some.injEq]at h;subst h;exact⟨rfl,trivial⟩
 | .slice none (_+1) _,m,h=>by simp[jk]at h
 | .slice none 0 (_+1),m,h=>by simp[jk]at h
 | .slice (some _) _ _,m,h=>by simp[jk]at h
 | .map none,m,h=>by simp only[jk,Option.some.injEq]at h;subst h;exact⟨rfl,trivial⟩
 | .map (some _),m,h=>by simp[jk]at h
 | .nilFunc,m,h=>by simp only[jk,Option.some.injEq]at h;subst h;exact⟨rfl,trivial⟩
 | .nilIface,m,h=>by simp only[jk,Option.some.injEq]at h;subst h;exact⟨rfl,trivial⟩
 | .agg ⟨cs⟩,m,h=>by
  simp only[jk]at h
  cases hc:sN cs with
  |none=>rw[hc]at h;cases h
  |some l=>
   rw[hc]at h
   cases ho:ones l with
   |false=>simp[ho]at h
   |true=>
    simp only[ho,cond_true,Option.some.injEq]at h;subst h
    obtain⟨h1,h2⟩:=LJ σ V cs l hc
    exact⟨by simp only[ae,h1],by simp only[wf];exact⟨h2,ho⟩⟩
 | .tuple ⟨cs⟩,m,h=>by
  simp only[jk]at h
  cases hc:sN cs with
  |none=>rw[hc]at h;cases h
  |some l=>
   rw[hc]at h;simp only[Option.some.injEq]at h;subst h
   obtain⟨h1,h2⟩:=LJ σ V cs l hc
   exact⟨by simp only[ae,h1],by simp only[wf];exact h2⟩
 | .float _ _,m,h | .complex _ _ _,m,h | .chan _,m,h | .func _ _ _,m,h | .iface _ _,m,h=>by simp[jk]at h
theorem LJ(σ:Sg)(V:Nat→Prop):∀(vs:List Value) (l:List MV),sN vs=some l→aF σ l=vs∧wfs σ V l
 | [],l,h=>by simp only[sN,Option.some.injEq]at h;subst h;exact⟨rfl,trivial⟩
 |v::vs,l,h=>by
  simp only[sN]at h
  cases h1:jk v with
  |none=>simp[h1]at h
  |some m=>cases h2:sN vs with
   |none=>simp[h1,h2]at h
   |some ms=>
    simp only[h1,h2,Option.some.injEq]at h;subst h
    obtain⟨a1,a2⟩:=CO σ V v m h1
    obtain⟨b1,b2⟩:=LJ σ V vs ms h2
    exact⟨by simp only[aF,a1,b1],by simp only[wfs];exact⟨a2,b2⟩⟩
end
end Go.aI
namespace Go.aI
variable [O:dw]
open Go.RowKit
structure bT(E:Env)(P:Program):Prop where
 ty:∀t T,E.ty.get t=some T→P.info? t=some T.info∧P.underlying t=some T.und
 fns:∀f F,E.fns.get f=some F→P.funcs[f]?=some F∧F.name≠ "runtime.NumGoroutine"
 ext:∀f k,E.ext f=some k→∀σ V args v,yV k args=some (.val v)→wfs σ V args→wf σ V v∧∀w,(callFunc f ⟨aF σ args⟩).run P w=.ok (.value (ae σ v)) w
 cmp:∀t,E.cmp t=true→P.eqGuardType P.depth t=false∧P.stoodInHeld t=false
 mixed:P.follows .mixedOrders=true
 bo:∀op t x y v,E.bo op t x y=some v→∀(σ:Sg) (V:Nat→Prop),wf σ V x→wf σ V y→wf σ V v∧(ae σ x≠.nilIface∧∀c,ae σ x≠.agg c)∧∀w,(binOp op t (ae σ x) (ae σ y)).run P w=.ok (ae σ v) w
 co:∀s d x v,E.co s d x=some v→∀(σ:Sg) (V:Nat→Prop),wf σ V x→wf σ V v∧∀w,(convert s d (ae σ x)).run P w=.ok (ae σ v) w
section runs
variable {P:Program} {w:World}
omit O in
theorem CP{t:TypeId}{i:TypeInfo}(h:P.info? t=some i)(w:World):(typeInfo t).run P w=.ok i w:=by
 simp[typeInfo,h]
omit O in
theorem dD{t:TypeId}{d:TypeDesc}(h:P.underlying t=some d)(w:World):(underlying t).run P w=.ok d w:=by
 simp[underlying,h]
omit O in
theorem sV{t:TypeId}{i:TypeInfo}(h:P.info? t=some i)(w:World):(sizeOf t).run P w=.ok i.size w:=by
 simp[sizeOf,typeInfo,h]
omit O in
theorem ag0{t:TypeId}{i:TypeInfo}{z:Value}(h:P.info? t=some i)(hz:i.zero=some z)(w:World):(zeroValue t).run P w=.ok z w:=by
 simp[zeroValue,typeInfo,h,hz]
omit O in
theorem UW{T:MT}{t:TypeId}(h:P.underlying t=some T.und)(w:World):(isAgg t).run P w=.ok (uO T) w:=by
 obtain⟨d,i⟩:=T
 simp only[isAgg,Sem.run_bind,dD h,Result.andThen,uO]
 cases d<;>rfl
end runs
def am6(w:World)(b:Nat)(c:Array Value)(t:TypeId)(fz:Nat×Nat):Prop:=w.heap[b]?=some (.cells c t fz)
def eG(σ:Sg)(e:ME):MapEntry:=⟨ae σ e.key,ae σ e.val,e.born⟩
def zI(σ:Sg)(V:Nat→Prop)(e:ME):Prop:=wf σ V e.key∧wf σ V e.val
structure ou(σ:Sg)(V:Nat→Prop)(t:Tr MV)(nt:Nat)(a:Array Value):Prop where
 size:a.size=nt
 cell:∀k v,t.get k=some v→wf σ V v∧a[k]?=some (ae σ v)
def nz(σ:Sg)(L:ML)(tm:Array Value)(fn:FuncId):Loop:=
 {state:=L.state,pending:=L.pending,fn,tmps:=tm,params:=⟨L.params⟩,assign:=L.assign,body:=L.body,defers:=(σ L.defers).blk}
def iV(σ:Sg)(V:Nat→Prop)(id:Nat)(w:World):MB→Prop
 | .cells cs t es opn=>∃c fz,w.heap[(σ id).blk]?=some (.cells c t fz)∧wfs σ V cs∧ones cs=true∧
   (∀i v,cs[i]?=some v→c[(σ id).off+i]?=some (ae σ v))∧(opn=true→(σ id).off+(σ id).cap*es≤c.size)∧(fz.1=fz.2∨c.size≤fz.1)
 | .map es clock=>w.heap[(σ id).blk]?=some (.map ⟨es.map (eG σ)⟩ clock)∧∀e∈es,zI σ V e
 | .iter m since seen stepped=>w.heap[(σ id).blk]?=some (.mapIter (m.map fun i=>(σ i).blk) since ⟨seen⟩ stepped)∧(σ id).off=0∧∀i,m=some i→V i
 | .loop L=>∃tm fn,w.heap[(σ id).blk]?=some (.loop (nz σ L tm fn))∧ou σ V L.tmps L.nt tm∧V L.defers
 | .pU=>w.heap[(σ id).blk]?=some (.deferred (some []))
 | .dead=>True
def live:MB→Bool
 | .dead=>false
 |_=>true
structure Kept(B:Nat→Prop)(w w':World):Prop where
 os:w'.os=w.os
 tape:w'.tape=w.tape
 output:w'.output=w.output
 size:w.heap.size≤w'.heap.size
 block:∀k,B k→w'.heap[k]?=w.heap[k]?
omit O in
theorem Kept.refl(B:Nat→Prop)(w:World):Kept B w w:=⟨rfl,rfl,rfl,Nat.le_refl _,fun _ _=>rfl⟩
omit O in
theorem Kept.of_below{B:Nat→Prop}{a b c:World}(h:Kept B a b)(hb:Below b.heap.size b c)(hB:∀k,B k→k<b.heap.size):Kept B a c:=
 ⟨hb.os.trans h.os,hb.tape.trans h.tape,hb.output.trans h.output,Nat.le_trans h.size hb.size,fun k hk=>(hb.block k (hB k hk)).trans (h.block k hk)⟩
omit O in
theorem Kept.alloc{B:Nat→Prop}{a b:World}(h:Kept B a b)(hB:∀k,B k→k<b.heap.size)(o:Obj):Kept B a (b.alloc o):=
 h.of_below ((Below.refl _ _).alloc (Nat.le_refl _) o) hB
omit O in
theorem Kept.drew{B:Nat→Prop}{a b:World}(h:Kept B a b):Kept B a b.drew:=⟨h.os,h.tape,h.output,h.size,h.block⟩
omit O in
theorem Kept.below{n:Nat}{a b:World}(h:Kept (· < n) a b):Below n a b:=⟨h.os,h.tape,h.output,h.size,h.block⟩
structure Rel(G:GB)(B:Nat→Prop)(W0:World)(σ:Sg)(V:Nat→Prop)(h:MH)(w:World):Prop where
 blk:∀id b,V id→h.get id=some b→iV σ V id w b
 inj:∀id id' b b',V id→V id'→h.get id=some b→h.get id'=some b'→live b=true→live b'=true→(σ id).blk=(σ id').blk→id=id'
 own:∀id b,V id→h.get id=some b→live b=true→G.ro≤id→¬B (σ id).blk
 kR:∀id,id<G.g0→V id∧(σ id).blk=id∧(σ id).off=0
 nx:∀id b,h.get id=some b→id<h.nx
 vx:∀id,V id→id<h.nx
 gx:G.ro≤h.nx
 below:Kept B W0 w
theorem iV.has{σ:Sg}{V:Nat→Prop}{id:Nat}{w:World}{b:MB}(h:iV σ V id w b)(hl:live b=true):∃o,w.heap[(σ id).blk]?=some o:=by
 cases b with
 |cells cs t es opn=>obtain⟨c,fz,h,-⟩:=h;exact⟨_,h⟩
 |map es clock=>exact⟨_,h.1⟩
 |iter m since seen stepped=>exact⟨_,h.1⟩
 |loop L=>obtain⟨tm,fn,h,-⟩:=h;exact⟨_,h⟩
 |pU=>exact⟨_,h⟩
 |dead=>cases hl
theorem FV{V V':Nat→Prop}{σ σ':Sg}(h:dJ V σ σ')(hV:∀id,V id→V' id){e:ME}(he:zI σ V e):zI σ' V' e∧eG σ' e=eG σ e:=
 ⟨⟨zH h hV _ he.1,zH h hV _ he.2⟩,by unfold eG;rw[qH h _ he.1,qH h _ he.2]⟩
theorem ou.jb{V V':Nat→Prop}{σ σ':Sg}{t:Tr MV}{nt:Nat}{a:Array Value}(h:dJ V σ σ')(hV:∀id,V id→V' id)(ht:ou σ V t nt a):ou σ' V' t nt a:=
 ⟨ht.size,fun k v hk=>let⟨h1,h2⟩:=ht.cell k v hk;⟨zH h hV _ h1,by rw[qH h _ h1];exact h2⟩⟩
theorem iV.jb{V V':Nat→Prop}{σ σ':Sg}{id:Nat}{w w':World}{b:MB}(h:dJ V σ σ')(hV:∀id,V id→V' id)(hid:V id)
  (hw:live b=true→w'.heap[(σ id).blk]?=w.heap[(σ id).blk]?) (hb:iV σ V id w b):iV σ' V' id w' b:=by
 have e:=h id hid
 cases b with
 |cells cs t es opn=>
  obtain⟨c,fz,h1,h2,h3,h4,h5,h6⟩:=hb
  refine⟨c,fz,by rw[e,hw rfl];exact h1,pV h hV _ h2,h3,fun i v hv=>?_,by rw[e];exact h5,h6⟩
  rw[e,qH h v ((fP _).1 h2 v (List.mem_of_getElem? hv))];exact h4 i v hv
 |map es clock=>
  obtain⟨h1,h2⟩:=hb
  refine⟨?_,fun x hx=>(FV h hV (h2 x hx)).1⟩
  rw[e,hw rfl,h1]
  congr 3
  exact List.map_congr_left fun x hx=>((FV h hV (h2 x hx)).2).symm
 |iter m since seen stepped=>
  obtain⟨h1,h0,h2⟩:=hb
  refine⟨?_,by rw[e];exact h0,fun i hi=>hV _ (h2 i hi)⟩
  rw[e,hw rfl,h1]
  cases m with
  |none=>rfl
  |some i=>simp only[Option.map_some,h i (h2 i rfl)]
 |loop L=>
  obtain⟨tm,fn,h1,h2,h3⟩:=hb
  refine⟨tm,fn,?_,h2.jb h hV,hV _ h3⟩
  rw[e,hw rfl,h1]
  simp only[nz,h _ h3]
 |pU=>show w'.heap[(σ' id).blk]?=_;rw[e,hw rfl];exact hb
 |dead=>trivial
def upd(σ:Sg)(id:Nat)(r:RI):Sg:=fun k=>if k=id then r else σ k
omit O in
theorem upd_same(σ:Sg)(id:Nat)(r:RI):upd σ id r id=r:=by simp[upd]
omit O in
theorem upd_ne(σ:Sg){id k:Nat}(r:RI)(h:k≠id):upd σ id r k=σ k:=by simp[upd,h]
omit O in
theorem oz{V:Nat→Prop}(σ:Sg){id:Nat}(r:RI)(h:¬V id):dJ V σ (upd σ id r):=fun _ hk=>upd_ne σ r (fun e=>h (e▸hk))
def iw(V:Nat→Prop)(id:Nat):Nat→Prop:=fun k=>V k∨k=id
section rel
variable {G:GB} {B:Nat→Prop} {W0:World} {σ:Sg} {V:Nat→Prop} {h:MH} {w:World}
theorem Rel.lt(R:Rel G B W0 σ V h w){id:Nat}{b:MB}(hv:V id)(hb:h.get id=some b)(hl:live b=true):(σ id).blk<w.heap.size:=by
 obtain⟨o,ho⟩:=(R.blk id b hv hb).has hl
 exact(Array.getElem?_eq_some_iff.1 ho).1
theorem Rel.drew(R:Rel G B W0 σ V h w):Rel G B W0 σ V h w.drew:=
 ⟨fun id b hv hb=>(R.blk id b hv hb).jb (fun _ _=>rfl) (fun _ hx=>hx) hv (fun _=>rfl),R.inj,R.own,R.kR,R.nx,R.vx,R.gx,R.below.drew⟩
theorem Rel.ghost(R:Rel G B W0 σ V h w)(b:MB):Rel G B W0 σ V (h.new b) w:=by
 have hne:∀id,V id→id≠h.nx:=fun id hv e=>Nat.lt_irrefl _ (e▸R.vx id hv)
 have hg:∀id,V id→(h.new b).get id=h.get id:=fun id hv=>by rw[MH.xA,if_neg (hne id hv)]
 refine⟨fun id b' hv hb=>R.blk id b' hv (by rw[←hg id hv];exact hb),fun id id' b1 b2 hv hv' h1 h2=>R.inj id id' b1 b2 hv hv' (by rw[←hg id hv];exact h1) (by rw[←hg id' hv'];exact h2),
  fun id b' hv hb=>R.own id b' hv (by rw[←hg id hv];exact hb),R.kR,fun id b' hb=>?_,fun id hv=>Nat.lt_succ_of_lt (R.vx id hv),Nat.le_succ_of_le R.gx,R.below⟩
 rw[MH.xA]at hb
 split at hb
 ·rename_i e;subst e;exact Nat.lt_succ_self _
 ·exact Nat.lt_succ_of_lt (R.nx id b' hb)
theorem Rel.UX(R:Rel G B W0 σ V h w){id:Nat}{b:MB}{o:Obj}(hB:∀k,B k→k<w.heap.size)(hv:¬V id)(hb:h.get id=some b)(hG:G.ro≤id)(off cap:Nat)
  (hblk:iV (upd σ id ⟨w.heap.size,off,cap⟩) (iw V id) id (w.alloc o) b):Rel G B W0 (upd σ id ⟨w.heap.size,off,cap⟩) (iw V id) h (w.alloc o):=by
 have ha:=oz (V:=V) σ ⟨w.heap.size,off,cap⟩ hv
 have hV:∀k,V k→iw V id k:=fun k hk=>.inl hk
 refine⟨fun id' b' hv' hb'=>?_,fun xC xE b1 b2 hv1 hv2 h1 h2 l1 l2 he=>?_,fun id' b' hv' hb' hl hg=>?_,fun k hk=>?_,R.nx,fun k hk=>?_,R.gx,R.below.alloc hB o⟩
 ·rcases hv' with hv'|rfl
  ·refine(R.blk id' b' hv' hb').jb ha hV hv' (fun hl=>?_)
   exact Below.heap_alloc w o _ (R.lt hv' hb' hl)
  ·rw[hb]at hb';cases hb';exact hblk
 ·rcases hv1 with hv1|rfl<;>rcases hv2 with hv2|rfl
  ·rw[ha _ hv1,ha _ hv2]at he;exact R.inj _ _ _ _ hv1 hv2 h1 h2 l1 l2 he
  ·rw[ha _ hv1,upd_same]at he;have:=R.lt hv1 h1 l1;simp only at he;omega
  ·rw[ha _ hv2,upd_same]at he;have:=R.lt hv2 h2 l2;simp only at he;omega
  ·rfl
 ·rcases hv' with hv'|rfl
  ·rw[ha _ hv'];exact R.own id' b' hv' hb' hl hg
  ·rw[upd_same];exact fun h=>Nat.lt_irrefl _ (hB _ h)
 ·obtain⟨h1,h2,h3⟩:=R.kR k hk
  refine⟨.inl h1,?_⟩
  rw[ha _ h1];exact⟨h2,h3⟩
 ·rcases hk with hk|rfl
  ·exact R.vx k hk
  ·exact R.nx _ _ hb
theorem Rel.alloc(R:Rel G B W0 σ V h w){b:MB}{o:Obj}(hB:∀k,B k→k<w.heap.size)(off cap:Nat)
  (hblk:iV (upd σ h.nx ⟨w.heap.size,off,cap⟩) (iw V h.nx) h.nx (w.alloc o) b):Rel G B W0 (upd σ h.nx ⟨w.heap.size,off,cap⟩) (iw V h.nx) (h.new b) (w.alloc o):=
 (R.ghost b).UX hB (fun hv=>Nat.lt_irrefl _ (R.vx _ hv)) (by rw[MH.xA,if_pos rfl]) R.gx off cap hblk
theorem Rel.write(R:Rel G B W0 σ V h w){id:Nat}{b0 b:MB}(hv:V id)(hb0:h.get id=some b0)(hl0:live b0=true)(hG:G.ro≤id)(o:Obj)
  (hblk:iV σ V id (w.putObj (σ id).blk o) b):Rel G B W0 σ V (h.set id b) (w.putObj (σ id).blk o):=by
 have hget:∀k,k≠id→(h.set id b).get k=h.get k:=fun k hk=>by rw[MH.vg,if_neg hk]
 have hsame:(h.set id b).get id=some b:=by rw[MH.vg,if_pos rfl]
 have hheap:∀k,k≠(σ id).blk→(w.putObj (σ id).blk o).heap[k]?=w.heap[k]?:=fun k hk=>by
  simp only[World.putObj];exact Array.getElem?_setIfInBounds_ne (Ne.symm hk)
 have hown:=R.own id b0 hv hb0 hl0 hG
 refine⟨fun k b' hk hb'=>?_,fun xC xE b1 b2 hv1 hv2 h1 h2 l1 l2 he=>?_,fun k b' hk hb' hl hg=>?_,R.kR,fun k b' hb'=>?_,R.vx,R.gx,
  ⟨R.below.os,R.below.tape,R.below.output,by simpa[World.putObj]using R.below.size,fun k hk=>by rw[hheap k (fun e=>hown (e▸hk))];exact R.below.block k hk⟩⟩
 ·by_cases e:k=id
  ·subst e;rw[hsame]at hb';cases hb';exact hblk
  ·rw[hget k e]at hb'
   refine(R.blk k b' hk hb').jb (fun _ _=>rfl) (fun _ hx=>hx) hk (fun hl=>hheap _ (fun e'=>e ?_))
   exact R.inj k id b' b0 hk hv hb' hb0 hl hl0 e'
 ·by_cases e1:xC=id<;>by_cases e2:xE=id
  ·rw[e1,e2]
  ·subst e1;rw[hget _ e2]at h2;exact R.inj _ _ _ _ hv1 hv2 hb0 h2 hl0 l2 he
  ·subst e2;rw[hget _ e1]at h1;exact R.inj _ _ _ _ hv1 hv2 h1 hb0 l1 hl0 he
  ·rw[hget _ e1]at h1;rw[hget _ e2]at h2;exact R.inj _ _ _ _ hv1 hv2 h1 h2 l1 l2 he
 ·by_cases e:k=id
  ·subst e;exact hown
  ·rw[hget k e]at hb';exact R.own k b' hk hb' hl hg
 ·by_cases e:k=id
  ·subst e;exact R.nx _ _ hb0
  ·rw[hget k e]at hb';exact R.nx k b' hb'
theorem Rel.kill(R:Rel G B W0 σ V h w){id:Nat}{b0:MB}(hb0:h.get id=some b0):Rel G B W0 σ V (h.set id .dead) w:=by
 have hget:∀k,k≠id→(h.set id .dead).get k=h.get k:=fun k hk=>by rw[MH.vg,if_neg hk]
 have hsame:(h.set id .dead).get id=some .dead:=by rw[MH.vg,if_pos rfl]
 refine⟨fun k b' hk hb'=>?_,fun xC xE b1 b2 hv1 hv2 h1 h2 l1 l2 he=>?_,fun k b' hk hb' hl hg=>?_,R.kR,fun k b' hb'=>?_,R.vx,R.gx,R.below⟩
 ·by_cases e:k=id
  ·subst e;rw[hsame]at hb';cases hb';trivial
  ·rw[hget k e]at hb';exact R.blk k b' hk hb'
 ·by_cases e1:xC=id
  ·subst e1;rw[hsame]at h1;cases h1;cases l1
  ·by_cases e2:xE=id
   ·subst e2;rw[hsame]at h2;cases h2;cases l2
   ·rw[hget _ e1]at h1;rw[hget _ e2]at h2;exact R.inj _ _ _ _ hv1 hv2 h1 h2 l1 l2 he
 ·by_cases e:k=id
  ·subst e;rw[hsame]at hb';cases hb';cases hl
  ·rw[hget k e]at hb';exact R.own k b' hk hb' hl hg
 ·by_cases e:k=id
  ·subst e;exact R.nx _ _ hb0
  ·rw[hget k e]at hb';exact R.nx k b' hb'
theorem Rel.size(R:Rel G B W0 σ V h w)(hW:∀k,B k→k<W0.heap.size):∀k,B k→k<w.heap.size:=fun k hk=>Nat.lt_of_lt_of_le (hW k hk) R.below.size
end rel
end Go.aI
namespace Go.aI
variable [O:dw]
open Go.RowKit
def fB(σ:Sg)(V:Nat→Prop)(ev:Ev)(ρ:Operand→Value):Prop:=∀x v,ev x=some v→wf σ V v∧ρ x=ae σ v
omit O in
theorem Sem.bind_ok{α β:Type}{P:Program}{w w':World}{x:Sem α}{f:α→Sem β}{a:α}(h:x.run P w=.ok a w'):(x >>= f).run P w=(f a).run P w':=by
 rw[Sem.run_bind,h];rfl
section looks
variable {E:Env} {P:Program} {B:Nat→Prop} {W0:World} {σ:Sg} {V:Nat→Prop} {h:MH} {w:World} {ev:Ev} {ρ:Operand→Value}
omit O in
theorem oC{o:Option MV}{v:MV}(h:vR o=some (.val v)):o=some v:=by
 unfold vR at h;split at h
 ·simpa using h
 ·cases h
omit O in
theorem LK(x:Operand)(l:List Operand):evs ev (x::l)=(match ev x with|none=>none|some v=>match evs ev l with|none=>none|some vs=>some (v::vs)):=by
 show(Option.rec none (fun v=>Option.rec none (fun vs=>some (v::vs)) (evs ev l)) (ev x):Option (List MV))=_
 cases ev x with
 |none=>rfl
 |some v=>cases evs ev l<;>rfl
theorem LM(hev:fB σ V ev ρ):∀(l:List Operand) (vs:List MV),evs ev l=some vs→wfs σ V vs∧l.map ρ=aF σ vs:=by
 intro l
 induction l with
 |nil=>
   intro vs h
   have e:evs ev []=some []:=rfl
   rw[e]at h;cases h
   exact⟨trivial,rfl⟩
 |cons x l ih=>
  intro vs h
  rw[LK]at h
  split at h
  ·cases h
  ·rename_i v hv
   split at h
   ·cases h
   ·rename_i us hu
    cases h
    obtain⟨h1,h2⟩:=hev x v hv
    obtain⟨h3,h4⟩:=ih us hu
    exact⟨by simp only[wfs];exact⟨h1,h3⟩,by simp only[List.map_cons,h2,h4,aF]⟩
theorem vk(R:Rel E.G B W0 σ V h w){id off n:Nat}{l:List MV}(hv:V id)(hr:jQ h id off n=some l) :
  wfs σ V l∧ones l=true∧l.length=n∧∀i v,l[i]?=some v→w.cell? ⟨(σ id).blk,(σ id).off+off+i,none⟩=some (ae σ v):=by
 unfold jQ at hr
 split at hr
 ·rename_i cs t es opn hg
  obtain⟨c,fz,h1,h2,h3,h4,-,-⟩:=R.blk id _ hv hg
  obtain⟨hn,rfl⟩:=sU hr
  rw[CG]at hn ⊢
  have hmem:∀v∈(cs.drop off).take n,v∈cs:=fun v hv=>List.mem_of_mem_drop (List.mem_of_mem_take hv)
  refine⟨(fP _).2 fun v hv=>(fP _).1 h2 v (hmem v hv),(iq _).2 fun v hv=>(iq _).1 h3 v (hmem v hv),by simp at hn ⊢;omega,fun i v hi=>?_⟩
  have hi':cs[off+i]?=some v:=by
   rw[List.getElem?_take]at hi
   split at hi
   ·rw[List.getElem?_drop]at hi;exact hi
   ·cases hi
  have:=h4 _ _ hi'
  simp only[World.cell?,h1]
  rw[if_neg (by simp),Nat.add_assoc];exact this
 ·cases hr
theorem CQ{id off:Nat}{l:List MV}(hc:∀i v,l[i]?=some v→w.cell? ⟨(σ id).blk,(σ id).off+off+i,none⟩=some (ae σ v)) :
  (loadCells ⟨(σ id).blk,(σ id).off+off,none⟩ l.length).run P w=.ok ⟨aF σ l⟩ w:=by
 have:=run_loadCells_list (P:=P) (w:=w) ⟨(σ id).blk,(σ id).off+off,none⟩ (aF σ l) (fun j v hj=>by
  rw[dS,List.getElem?_map]at hj
  cases hl:l[j]? with
  |none=>rw[hl]at hj;cases hj
  |some u=>
   rw[hl]at hj;cases hj
   rw[Addr.add_lit];exact hc j u hl)
 rw[show(aF σ l).length=l.length by rw[dS];simp]at this
 exact this
theorem UY(hE:bT E P)(R:Rel E.G B W0 σ V h w){t:TypeId}{T:MT}{id off:Nat}{v:MV}(hT:E.ty.get t=some T)(hv:V id)(hr:BV T h id off=some v) :
  wf σ V v∧(loadVar t ⟨(σ id).blk,(σ id).off+off,none⟩).run P w=.ok (ae σ v) w:=by
 obtain⟨hi,hu⟩:=hE.ty t T hT
 unfold BV at hr
 split at hr
 ·rename_i cs e es opn hg
  unfold partOf at hr
  unfold loadVar
  rw[Sem.bind_ok (UW hu w)]
  cases ha:uO T with
  |true=>
   rw[ha]at hr
   simp only[cond_true]at hr
   split at hr
   ·rename_i l hl
    cases hr
    have hrc:jQ h id off T.info.size=some l:=by unfold jQ;rw[hg];exact hl
    obtain⟨h1,h2,h3,h4⟩:=vk R hv hrc
    refine⟨by simp only[wf];exact⟨h1,h2⟩,?_⟩
    simp only[if_true]
    rw[Sem.bind_ok (sV hi w)]
    rw[←h3,Sem.bind_ok (CQ h4)]
    simp only[Sem.run_pure,ae]
   ·cases hr
  |false=>
   rw[ha]at hr
   simp only[cond_false]at hr
   obtain⟨c,fz,h1,h2,h3,h4,-,-⟩:=R.blk id _ hv hg
   rw[uZ]at hr
   refine⟨(fP _).1 h2 v (List.mem_of_getElem? hr),?_⟩
   have hc:w.cell? ⟨(σ id).blk,(σ id).off+off,none⟩=some (ae σ v):=by
    simp only[World.cell?,h1]
    rw[if_neg (by simp)];exact h4 _ _ hr
   simp only[Bool.false_eq_true,if_false,run_load,hc]
 ·cases hr
theorem ag1(hE:bT E P)(R:Rel E.G B W0 σ V h w)(hev:fB σ V ev ρ){t:TypeId}{x:Operand}{v:MV}(ho:zf E ev t x h=some (.val v)) :
  wf σ V v∧(Instr.loadAt t (ρ x)).run P w=.ok (ae σ v) w:=by
 unfold zf at ho
 split at ho
 ·rename_i T id off hT hx
  obtain⟨h1,h2⟩:=hev x _ hx
  simp only[wf]at h1
  have:=UY hE R hT h1 (oC ho)
  refine⟨this.1,?_⟩
  rw[h2]
  simp only[Instr.loadAt,Instr.sureAddr,ae,pure_bind]
  exact this.2
 ·cases ho
theorem FW(hE:bT E P){t:TypeId}{T:MT}{cs:List MV}{off:Nat}{v:MV}(hT:E.ty.get t=some T)(hc:wfs σ V cs)(h1:ones cs=true)(hp:partOf T cs off=some v)(w:World) :
  wf σ V v∧(part t ⟨aF σ cs⟩ off).run P w=.ok (ae σ v) w:=by
 obtain⟨hi,hu⟩:=hE.ty t T hT
 unfold partOf at hp
 unfold part
 rw[Sem.bind_ok (UW hu w)]
 cases ha:uO T with
 |true=>
  rw[ha]at hp
  simp only[cond_true]at hp
  split at hp
  ·rename_i l hl
   cases hp
   obtain⟨hn,rfl⟩:=sU hl
   rw[CG]at hn ⊢
   have hmem:∀v∈(cs.drop off).take T.info.size,v∈cs:=fun v hv=>List.mem_of_mem_drop (List.mem_of_mem_take hv)
   refine⟨by simp only[wf];exact⟨(fP _).2 fun v hv=>(fP _).1 hc v (hmem v hv),(iq _).2 fun v hv=>(iq _).1 h1 v (hmem v hv)⟩,?_⟩
   simp only[if_true]
   rw[Sem.bind_ok (sV hi w)]
   simp only[Sem.run_pure,ae]
   congr 2
   rw[dS,dS,←Array.toList_inj,Array.toList_extract]
   simp[List.extract_eq_take_drop,List.map_take,List.map_drop]
  ·cases hp
 |false=>
  rw[ha]at hp
  simp only[cond_false]at hp
  rw[uZ]at hp
  refine⟨(fP _).1 hc v (List.mem_of_getElem? hp),?_⟩
  have:(⟨aF σ cs⟩:Array Value)[off]?=some (ae σ v):=by
   rw[dS];simp[hp]
  simp only[Bool.false_eq_true,if_false,this,Sem.run_pure]
theorem UZ(hE:bT E P){t:TypeId}{T:MT}{f:Nat}{F:Field}(hT:E.ty.get t=some T)(hf:Ff T f=some F) :
  ∃fs,P.underlying t=some (.struct fs)∧fs[f]?=some F:=by
 obtain⟨hi,hu⟩:=hE.ty t T hT
 unfold Ff at hf
 split at hf
 ·rename_i fs hs
  rw[hs]at hu
  rw[uZ]at hf
  exact⟨fs,hu,by simpa using hf⟩
 ·cases hf
theorem ag2(hE:bT E P)(hev:fB σ V ev ρ){t:TypeId}{x:Operand}{f:Nat}{v:MV}(ho:zq E ev t x f=some (.val v))(w:World) :
  wf σ V v∧(Instr.field t (ρ x) f).run P w=.ok (ae σ v) w:=by
 unfold zq at ho
 split at ho
 ·rename_i T cs hT hx
  split at ho
  ·rename_i F hF
   split at ho
   ·rename_i FT hFT
    obtain⟨h1,h2⟩:=hev x _ hx
    simp only[wf]at h1
    obtain⟨fs,hu,hf⟩:=UZ hE hT hF
    have:=FW hE hFT h1.1 h1.2 (oC ho) w
    refine⟨this.1,?_⟩
    unfold Instr.field
    rw[Sem.bind_ok (dD hu w),h2]
    simp only[hf,ae,asAgg,pure_bind]
    exact this.2
   ·cases ho
  ·cases ho
 ·cases ho
theorem pW(hE:bT E P){t:TypeId}{n:Nat}(hs:oq E t=some n)(w:World):(sizeOf t).run P w=.ok n w:=by
 unfold oq at hs
 split at hs
 ·rename_i T hT
  cases hs
  exact sV (hE.ty t T hT).1 w
 ·cases hs
theorem ag4(hE:bT E P)(hev:fB σ V ev ρ){t:TypeId}{x:Operand}{f:Nat}{v:MV}(ho:zo E ev t x f=some (.val v))(w:World) :
  wf σ V v∧(Instr.fieldAt t (ρ x) f).run P w=.ok (ae σ v) w:=by
 unfold zo at ho
 split at ho
 ·rename_i T id off hT hx
  split at ho
  ·rename_i F hF
   split at ho
   ·rename_i n hn
    cases hz:Nat.beq n 0 with
    |true=>simp[hz]at ho
    |false=>
     simp only[hz,cond_false,Option.some.injEq,MR.val.injEq]at ho
     subst ho
     have hn0:n≠0:=fun e=>by subst e;cases hz
     obtain⟨h1,h2⟩:=hev x _ hx
     simp only[wf]at h1
     obtain⟨fs,hu,hf⟩:=UZ hE hT hF
     refine⟨h1,?_⟩
     unfold Instr.fieldAt
     rw[Sem.bind_ok (dD hu w),h2]
     simp only[hf,ae,Instr.sureAddr,pure_bind]
     unfold fieldPlace
     rw[bind_assoc,Sem.bind_ok (pW hE hn w)]
     simp only[hn0,if_false,pure_bind,Sem.run_pure,Addr.add_lit]
     simp[Nat.add_assoc]
   ·cases ho
  ·cases ho
 ·cases ho
omit O in
theorem U0{v:MV}{n:Nat}(hn:Fg v=some n):∃k,v=.int k (.ofNat n):=by
 unfold Fg at hn
 split at hn
 ·cases hn;exact⟨_,rfl⟩
 ·cases hn
theorem FX(hev:fB σ V ev ρ){x:Operand}{n:Nat}(hn:sQ ev x=some n):∃k,ρ x=.int k (.ofNat n):=by
 unfold sQ at hn
 split at hn
 ·rename_i v hv
  obtain⟨k,rfl⟩:=U0 hn
  exact⟨k,(hev x _ hv).2⟩
 ·cases hn
theorem LP(hE:bT E P){e:TypeId}{id off len i:Nat}{v:MV}(hv:V id)(ho:xn E e id off len i=some (.val v))(w:World) :
  wf σ V v∧i<len∧∃n,(sizeOf e).run P w=.ok n w∧ae σ v=.pointer (some ⟨(σ id).blk,(σ id).off+off+i*n,none⟩):=by
 unfold xn at ho
 split at ho
 ·rename_i n hn
  cases hb:Nat.blt i len with
  |false=>simp[hb]at ho
  |true=>
   simp only[hb,cond_true,Option.some.injEq,MR.val.injEq]at ho
   subst ho
   exact⟨hv,by simpa[Nat.blt_eq]using hb,n,pW hE hn w,by simp[ae,Nat.add_assoc]⟩
 ·cases ho
theorem ag5(hE:bT E P)(hev:fB σ V ev ρ){t:TypeId}{x i:Operand}{v:MV}(ho:zt E ev t x i=some (.val v))(w:World) :
  wf σ V v∧(Instr.indexAt t (ρ x) (ρ i)).run P w=.ok (ae σ v) w:=by
 unfold zt at ho
 split at ho
 ·rename_i T xv n hT hx hn
  obtain⟨k,hk⟩:=FX hev hn
  obtain⟨h1,h2⟩:=hev x _ hx
  obtain⟨hi,hu⟩:=hE.ty t T hT
  unfold Instr.indexAt
  rw[hk]
  simp only[asIntOf,pure_bind]
  rw[Sem.bind_ok (dD hu w),h2]
  split at ho
  ·rename_i m e id off hd
   simp only[wf]at h1
   obtain⟨g1,g2,s,g3,g4⟩:=LP (σ:=σ) (V:=V) hE h1 ho w
   refine⟨g1,?_⟩
   simp only[hd,ae,Instr.sureAddr,pure_bind]
   rw[Sem.bind_ok (dD hu w)]
   have hlt:(0:Int)≤Int.ofNat n∧Int.ofNat n<(m:Int):=⟨Int.natCast_nonneg n,by simpa using g2⟩
   simp only[hlt,and_self,if_true]
   rw[Sem.bind_ok g3]
   simp only[Sem.run_pure,Addr.add_lit,g4]
   rfl
  ·rename_i e id off len cap hd
   simp only[wf]at h1
   obtain⟨g1,g2,s,g3,g4⟩:=LP (σ:=σ) (V:=V) hE h1.1 ho w
   refine⟨g1,?_⟩
   simp only[hd,ae]
   rw[Sem.bind_ok (dD hu w)]
   have hlt:(0:Int)≤Int.ofNat n∧Int.ofNat n<(len:Int):=⟨Int.natCast_nonneg n,by simpa using g2⟩
   simp only[hlt,and_self,if_true]
   rw[Sem.bind_ok g3]
   simp only[Sem.run_pure,Addr.add_lit,g4]
   rfl
  ·rename_i e id off l len hd
   simp only[wf]at h1
   obtain⟨g1,g2,s,g3,g4⟩:=LP (σ:=σ) (V:=V) hE h1.1 ho w
   refine⟨g1,?_⟩
   simp only[hd,ae]
   rw[Sem.bind_ok (dD hu w)]
   have hlt:(0:Int)≤Int.ofNat n∧Int.ofNat n<(len:Int):=⟨Int.natCast_nonneg n,by simpa using g2⟩
   simp only[hlt,and_self,if_true]
   rw[Sem.bind_ok g3]
   simp only[Sem.run_pure,Addr.add_lit,g4]
   rfl
  ·cases ho
 ·cases ho
end looks
end Go.aI
namespace Go.aI
variable [O:dw]
open Go.RowKit
theorem U1{P:Program}{s:Sem Value}{m:MV}(σ:Sg)(V:Nat→Prop)(h:Fe s=some m)(w:World):wf σ V m∧s.run P w=.ok (ae σ m) w:=by
 unfold Fe at h
 split at h
 ·rename_i v
  obtain⟨h1,h2⟩:=CO σ V v m h
  exact⟨h2,by rw[h1];rfl⟩
 ·cases h
omit O in
theorem vw(a:List Nat):(bytesV a).toList=a.map UInt8.ofNat:=by simp[bytesV]
omit O in
theorem U3{a b:Nat}(ha:a<256)(hb:b<256)(h:UInt8.ofNat a=UInt8.ofNat b):a=b:=by
 have:=congrArg UInt8.toNat h
 simp at this
 omega
omit O in
theorem LQ:∀{a b:List Nat},(∀x∈a,x<256)→(∀x∈b,x<256)→(a.map UInt8.ofNat=b.map UInt8.ofNat↔a=b):=by
 intro a
 induction a with
 |nil=>intro b _ _;cases b<;>simp
 |cons x a ih=>
  intro b ha hb
  cases b with
  |nil=>simp
  |cons y b=>
   simp only[List.map_cons,List.cons.injEq]
   rw[ih (fun z hz=>ha z (by simp[hz])) (fun z hz=>hb z (by simp[hz]))]
   constructor
   ·rintro⟨h1,h2⟩;exact⟨U3 (ha x (by simp)) (hb y (by simp)) h1,h2⟩
   ·rintro⟨h1,h2⟩;exact⟨by rw[h1],h2⟩
omit O in
theorem FY:∀(a b:List Nat),uP a b=decide (a=b):=by
 intro a
 induction a with
 |nil=>intro b;cases b<;>rfl
 |cons x a ih=>
  intro b
  cases b with
  |nil=>rfl
  |cons y b=>
   show and (Nat.beq x y) (uP a b)=_
   rw[ih b]
   by_cases hx:x=y
   ·subst hx;simp
   ·have:Nat.beq x y=false:=by cases hb:Nat.beq x y;rfl;exact absurd (Nat.eq_of_beq_eq_true hb) hx
    simp[this,hx]
omit O in
theorem ag6:∀(a b:List Nat),(∀x∈a,x<256)→(∀x∈b,x<256)→xk a b=Op.bytesLess (a.map UInt8.ofNat) (b.map UInt8.ofNat):=by
 intro a
 induction a with
 |nil=>intro b _ _;cases b<;>rfl
 |cons x a ih=>
  intro b ha hb
  cases b with
  |nil=>rfl
  |cons y b=>
   have hx:=ha x (by simp)
   have hy:=hb y (by simp)
   show or (Nat.blt x y) (and (Nat.beq x y) (xk a b))=_
   rw[ih b (fun z hz=>ha z (by simp[hz])) (fun z hz=>hb z (by simp[hz]))]
   simp only[List.map_cons,Op.bytesLess]
   have e1:Nat.blt x y=decide (UInt8.ofNat x<UInt8.ofNat y):=by
    rw[Bool.eq_iff_iff]
    simp only[Nat.blt_eq,decide_eq_true_eq,UInt8.lt_iff_toNat_lt]
    simp
    rw[Nat.mod_eq_of_lt hx,Nat.mod_eq_of_lt hy]
   have e2:Nat.beq x y=(UInt8.ofNat x == UInt8.ofNat y):=by
    rw[Bool.eq_iff_iff,beq_iff_eq]
    exact⟨fun h=>by rw[Nat.eq_of_beq_eq_true h],fun h=>by rw[U3 hx hy h];exact Nat.beq_refl y⟩
   rw[e1,e2]
omit O in
theorem qI(a:List Nat):(bytesV a).size=a.length:=by simp[bytesV,ByteArray.size]
omit O in
theorem ag7(a b:List Nat):bytesV a++bytesV b=bytesV (a++b):=by
 apply ByteArray.ext
 rw[ByteArray.data_append]
 simp[bytesV]
omit O in
theorem LU(a b:ByteArray):(a == b)=decide (a.toList=b.toList):=by
 obtain⟨⟨x⟩⟩:=a
 obtain⟨⟨y⟩⟩:=b
 have e:((ByteArray.mk ⟨x⟩) == (ByteArray.mk ⟨y⟩))=((⟨x⟩:Array UInt8) == ⟨y⟩):=rfl
 rw[e,Bool.eq_iff_iff]
 simp
section ops
variable {E:Env} {P:Program} {B:Nat→Prop} {W0:World} {σ:Sg} {V:Nat→Prop} {h:MH} {w:World} {ev:Ev} {ρ:Operand→Value}
theorem ag8{op:BinOp}{a b:List Nat}{m:MV}(ha:∀x∈a,x<256)(hb:∀x∈b,x<256)(ho:KP op a b=some m)(w:World) :
  wf σ V m∧(Op.stringOp op (bytesV a) (bytesV b)).run P w=.ok (ae σ m) w:=by
 have heq:((bytesV a).toList == (bytesV b).toList)=uP a b:=by
  rw[vw,vw,FY,Bool.eq_iff_iff]
  simp only[beq_iff_eq,decide_eq_true_eq]
  exact LQ ha hb
 have hlt:Op.bytesLess (bytesV a).toList (bytesV b).toList=xk a b:=by rw[vw,vw,ag6 a b ha hb]
 unfold KP at ho
 unfold Op.stringOp
 simp only[heq,hlt]
 cases op<;>simp only at ho
 case add=>
  cases hc:Nat.ble (Nat.add (dC a 0) (dC b 0)) 1048576 with
  |false=>rw[hc]at ho;cases ho
  |true=>
   rw[hc]at ho
   simp only[cond_true,Option.some.injEq]at ho
   subst ho
   rw[jl,jl]at hc
   have hc':=Nat.le_of_ble_eq_true hc
   simp only[Nat.add_zero,Nat.add_eq]at hc'
   refine⟨by simp only[wf,List.mem_append];rintro x (hx|hx);exact ha x hx;exact hb x hx,?_⟩
   rw[qI,qI,if_neg (by simp only[IntKind.max,IntKind.signed,IntKind.bits];simp;omega)]
   simp only[Sem.run_pure,ae,ag7]
 all_goals first|(cases ho;done)|(simp only[Option.some.injEq]at ho;subst ho;exact⟨trivial,rfl⟩)
theorem U4{y:MV}(h:yR y=true):∃a n c,ae σ y=.slice (some a) n c:=by
 cases y<;>simp only[yR,Bool.false_eq_true]at h<;>exact⟨_,_,_,rfl⟩
theorem U5{y:MV}(h:isFn y=true):∃f a b,ae σ y=.func f a b:=by
 cases y<;>simp only[isFn,Bool.false_eq_true]at h<;>exact⟨_,_,_,rfl⟩
theorem FZ{t:TypeId}{d:TypeDesc}{x y:MV}{b:Bool}(hu:P.underlying t=some d)(hx:wf σ V x)(hy:wf σ V y)(he:mg d x y=some b)(n:Nat)(w:World) :
  (Op.equalIn (n+1) t (ae σ x) (ae σ y)).run P w=.ok b w:=by
 unfold Op.equalIn
 rw[Sem.bind_ok (dD hu w)]
 unfold mg at he
 cases d<;>simp only at he
 case bool=>
  split at he
  ·cases he;rfl
  ·cases he
 case int k0=>
  split at he
  ·rename_i k a k' b'
   by_cases hk:k=k'
   ·subst hk
    simp only[decide_true,cond_true,Option.some.injEq]at he
    subst he
    simp only[ae]
    simp
    rfl
   ·simp[hk]at he
  ·cases he
 case string=>
  split at he
  ·rename_i a b'
   simp only[Option.some.injEq]at he
   subst he
   simp only[wf]at hx hy
   simp only[ae,Sem.run_pure]
   congr 1
   rw[FY,LU,vw,vw,Bool.eq_iff_iff]
   simp only[decide_eq_true_eq]
   exact LQ hx hy
  ·cases he
 case pointer e=>
  split at he<;>first|(cases he;done)|(simp only[Option.some.injEq]at he;subst he;simp[ae])
 case slice e=>
  split at he
  ·cases he;simp[ae]
  ·cases hs:yR y with
   |false=>rw[hs]at he;cases he
   |true=>
    rw[hs]at he;cases he
    obtain⟨a,m,c,hy'⟩:=U4 (σ:=σ) hs
    simp[ae,hy']
  ·cases hs:yR x with
   |false=>rw[hs]at he;cases he
   |true=>
    rw[hs]at he;cases he
    obtain⟨a,m,c,hx'⟩:=U4 (σ:=σ) hs
    simp[ae,hx']
  ·cases he
 case map k e=>
  split at he<;>first|(cases he;done)|(simp only[Option.some.injEq]at he;subst he;simp[ae])
 case func a b' c=>
  split at he
  ·cases he;simp[ae]
  ·cases hs:isFn y with
   |false=>rw[hs]at he;cases he
   |true=>
    rw[hs]at he;cases he
    obtain⟨f,p,q,hy'⟩:=U5 (σ:=σ) hs
    simp[ae,hy']
  ·cases hs:isFn x with
   |false=>rw[hs]at he;cases he
   |true=>
    rw[hs]at he;cases he
    obtain⟨f,p,q,hx'⟩:=U5 (σ:=σ) hs
    simp[ae,hx']
  ·cases he
 all_goals cases he
end ops
end Go.aI
