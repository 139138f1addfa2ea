/- A part of the proof. -/
import Derived.Test.YtaghcadlgbnbdaaGreatDoorA10
import Derived.RangeFuncRecord
namespace Go.aY
def CV:List Nat→List Nat→Bool
 | [],[]=>true
 |a::x,b::y=>and (Nat.beq a b) (CV x y)
 |_,_=>false
mutual
def eqv:MV→MV→Bool
 | .bool a,.bool b=>a == b
 | .int k a,.int k' b=>and (decide (k=k')) (decide (a=b))
 | .str a,.str b=>CV a b
 | .dB,.dB=>true
 | .ptr a b,.ptr c d=>and (Nat.beq a c) (Nat.beq b d)
 | .bG,.bG=>true
 | .sl a b c d,.sl a' b' c' d'=>and (and (Nat.beq a a') (Nat.beq b b')) (and (Nat.beq c c') (Nat.beq d d'))
 | .bU a b c d,.bU a' b' c' d'=>and (and (Nat.beq a a') (Nat.beq b b')) (and (Nat.beq c c') (Nat.beq d d'))
 | .sle a b c d,.sle a' b' c' d'=>and (and (Nat.beq a a') (Nat.beq b b')) (and (Nat.beq c c') (Nat.beq d d'))
 | .dh a,.dh b=>Nat.beq a b
 | .bK,.bK=>true
 | .mp a,.mp b=>Nat.beq a b
 | .di,.di=>true
 | .dK,.dK=>true
 | .fn f a b,.fn g c d=>and (Nat.beq f g) (and (sJ a c) (sJ b d))
 | .opq a,.opq b=>Nat.beq a b
 | .agg a,.agg b=>sJ a b
 | .cu a,.cu b=>sJ a b
 |_,_=>false
def sJ:List MV→List MV→Bool
 | [],[]=>true
 |a::x,b::y=>and (eqv a b) (sJ x y)
 |_,_=>false
end
def qG:MB→MB→Bool
 | .cells a t e o,.cells b t' e' o'=>and (sJ a b) (and (and (Nat.beq t t') (Nat.beq e e')) (o == o'))
 | .map [] c,.map [] c'=>Nat.beq c c'
 |_,_=>false
inductive MX where
 |normal
 |exit (id:Nat)
 |goto (l:Nat)
 |ret
structure MO where
 e:MX
 a:MA
 h:MH
inductive Task where
 |call (f:FuncId) (args:List MV)
 |round (id:Nat) (args:List MV)
structure PE where
 i:Nat
 o:Oper
 pre:Nat
def floats(o:Oper):Bool:=
 match o.op with
 | .move _ | .pick .. | .load .. | .binOp .. | .unOp .. | .makeFunc .. | .slice .. | .fieldAddr .. | .field .. | .indexAddr .. | .index .. | .lookup .. | .extract .. | .build .. | .nilCheck _
 | .convert .. | .alloc _ | .box .. | .buildSlice .. | .makeSlice .. | .makeMap ..=>true
 | .call {callee:=.builtin b,..}=>match b with | .len | .cap | .min | .max=>true|_=>false
 |_=>false
noncomputable def qH(ms:List Nat)(es:List Edge):Nat:=
 List.rec 0 (fun e _ ih=>Bool.rec ih (Nat.lor ih (Nat.lor (Nat.shiftLeft 1 e.on) (match jd ms e.on with|some m=>m|none=>0))) (Region.binds .any e)) es
noncomputable def yc(l:List Oper):Nat→List Nat→List PE:=
 List.rec (fun _ _=>[]) (fun o _ ih i ms=>⟨i,o,qH ms o.after.toList⟩::ih (Nat.succ i) (ms++[qH ms o.after.toList])) l
noncomputable def Qp(m:Nat)(l:List PE):Bool:=List.rec false (fun p _ ih=>Bool.rec ih true (Nat.testBit m p.i)) l
noncomputable def FK(p:PE)(l:List PE):List PE:=List.rec [p] (fun q l ih=>Bool.rec (p::q::l) (q::ih) (Qp p.pre (q::l))) l
noncomputable def FM(l:List PE):List PE→List PE:=
 List.rec (fun acc=>acc) (fun p _ ih acc=>ih (Bool.rec (acc++[p]) (FK p acc) (floats p.o))) l
def kR(d:Option Tmp)(l:List Tmp):Bool:=match d with|some t=>l.any (Nat.beq t)|none=>false
def yf(a b:Option Tmp):Bool:=match a,b with|some x,some y=>Nat.beq x y|_,_=>false
def zS(ops:Array Oper)(p q:PE):Bool:=
 or (and (Nat.testBit q.pre p.i) (not (floats q.o)))
  (and (and (not (kR q.o.dst (p.o.looksAt ops))) (not (yf p.o.dst q.o.dst))) (or (Nat.testBit q.pre p.i) (and (floats p.o) (not (kR p.o.dst (q.o.looksAt ops))))))
def zT(o:Oper):Bool:=match o.op with | .select ..=>false | .defer _=>false|_=>true
def Qq(p:PE):Bool:=p.o.after.toList.all fun e=>or (not (Region.binds .any e)) (Nat.blt e.on p.i)
def zU(ops:Array Oper):List PE→Bool
 | []=>true
 |p::l=>and (and (zT p.o) (and (not (kR p.o.dst (p.o.looksAt ops))) (Qq p))) (and (l.all (zS ops p)) (zU ops l))
noncomputable def JY(ops:Array Oper):Option (List PE):=
 cond (zU ops (FM (yc ops.toList 0 []) [])) (some (FM (yc ops.toList 0 []) [])) none
inductive FR where
 |skip
 |look (v:MV)
 |oJ (id:Nat) (k:gz) (b:MB)
structure FL where
 p:PE
 r:FR
section run
variable (E:Env) (go:Task→MH→Option (MV×MH))
noncomputable def asf(ops:Array Oper)(a:MA)(j:Nat):Option Bool:=
 match jd ops.toList j with
 |some o=>match o.dst with
  |some d=>match a.tmps.get d with|some (.bool b)=>some b|_=>none
  |none=>none
 |none=>none
noncomputable def mD(ops:Array Oper)(a:MA)(o:Oper):Option Bool:=
 match o.guard with
 |none=>some true
 |some (j,b)=>match jd ops.toList j with
  |some g=>match g.dst with
   |some d=>match a.tmps.get d with
    |some (.bool c)=>some (c == b)
    |some (.cu _)=>some false
    |_=>none
   |none=>none
  |none=>none
noncomputable def mF(h:MH):Option MR→Option (MV×MH)
 |some (.val v)=>some (v,h)
 |some (.new k b)=>some (k.at h.nx,h.new b)
 |some (.upd v h')=>some (v,h')
 |some (.enter f args)=>go (.call f args) h
 |some (.round l args)=>go (.round l args) h
 |none=>none
noncomputable def CW(ops:Array Oper)(l:List Oper):MA→MH→Option (MA×MH):=
 List.rec (fun a h=>some (a,h)) (fun o _ ih a h=>
  match mD ops a o with
  |some true=>match mF go h (eY E (a.eval E.G) o.op h)with
   |some (v,h')=>ih (a.put o.dst v) h'
   |none=>none
  |some false=>ih (a.put o.dst jM) h
  |none=>none) l
noncomputable def CX(ev:Ev)(h:MH)(m:Nat)(f:FL):Bool:=
 Bool.rec (match f.r with
  | .skip=>true
  | .look v=>match eY E ev f.p.o.op h with|some (.val u)=>eqv u v|_=>false
  | .oJ id _ b=>match h.get id with|some c=>qG c b|none=>false) true (Nat.testBit m f.p.i)
noncomputable def wG(ev:Ev)(h:MH)(m:Nat)(fl:List FL):Bool:=
 List.rec true (fun f _ ih=>Bool.rec false ih (CX E ev h m f)) fl
noncomputable def uP(m:Nat)(fl:List FL):List FL:=
 List.rec [] (fun f _ ih=>Bool.rec (f::ih) ih (Nat.testBit m f.p.i)) fl
noncomputable def lG(ops:Array Oper)(l:List PE):List FL→MA→MH→Option (MA×MH):=
 List.rec (fun _ a h=>some (a,h)) (fun p _ ih fl a h=>
  match mD ops a p.o with
  |some true=>Bool.rec
    (match mF go h (eY E (a.eval E.G) p.o.op h)with
     |some (v,h')=>Bool.rec none (ih (uP p.pre fl) (a.put p.o.dst v) h') (wG E ((a.put p.o.dst v).eval E.G) h' p.pre fl)
     |none=>none)
    (match eY E (a.eval E.G) p.o.op h with
     |some (.val v)=>ih (⟨p,.look v⟩::fl) (a.put p.o.dst v) h
     |some (.new k b)=>Bool.rec none (ih (⟨p,.oJ h.nx k b⟩::fl) (a.put p.o.dst (k.at h.nx)) (h.new b)) (wG E ((a.put p.o.dst (k.at h.nx)).eval E.G) (h.new b) 0 fl)
     |_=>none)
    (floats p.o)
  |some false=>Bool.rec (ih (uP p.pre fl) (a.put p.o.dst jM) h) (ih (⟨p,.skip⟩::fl) (a.put p.o.dst jM) h) (floats p.o)
  |none=>none) l
noncomputable def JZ(body:MA→MH→Option MO)(n:Nat):MA→MH→Option MO:=
 Nat.rec (fun _ _=>none) (fun _ ih a h=>match body a h with
  |some ⟨.normal,a',h'⟩=>ih a' h'
  |r=>r) n
def amv:MX→Option Code
 | .normal=>none
 | .ret=>some .ret
 | .exit id=>some (.exit id)
 | .goto l=>some (.goto l)
def CY:Option Code→Option MX
 |none=>some .normal
 |some .ret=>some .ret
 |some (.exit id)=>some (.exit id)
 |some (.goto l)=>some (.goto l)
 |_=>none
noncomputable def FN(a:MA)(ps:List Nat)(assign body:Code)(rd:Option Nat)(h:MH):Option (Nat×MA×MH):=
 match rd with
 |some l=>match h.get l with
  |some (.loop L)=>some (h.nx,a,h.new (.loop ⟨.ready,none,a.tmps,a.nt,ps,assign,body,L.defers⟩))
  |_=>none
 |none=>some (Nat.succ h.nx,{a with defs:=h.nx::a.defs},(h.new .sG).new (.loop ⟨.ready,none,a.tmps,a.nt,ps,assign,body,h.nx⟩))
abbrev Ih:=Code→MA→MH→Option MO
noncomputable def ZC(ih:Ih)(x y:Code)(a:MA)(h:MH):Option MO:=
 match ih x a h with
 |some ⟨.normal,a',h'⟩=>ih y a' h'
 |r=>r
noncomputable def ZE(ih:Ih)(c:Operand)(x y:Code)(a:MA)(h:MH):Option MO:=
 match a.eval E.G c with
 |some (.bool b)=>ih (cond b x y) a h
 |_=>none
noncomputable def ZF(ih:Ih)(id:Nat)(c:Code)(a:MA)(h:MH):Option MO:=
 match ih c a h with
 |some ⟨.exit id',a',h'⟩=>some ⟨cond (Nat.beq id' id) .normal (.exit id'),a',h'⟩
 |r=>r
noncomputable def ZG(ih:Ih)(c:Code)(a:MA)(h:MH):Option MO:=
 match ih c a h with
 |some ⟨.goto l,a',h'⟩=>match findLabel c l with
  |some c'=>match ih c' a' h' with
   |some ⟨.goto _,_,_⟩=>none
   |r=>r
  |none=>none
 |r=>r
noncomputable def ZH(ops:Array Oper)(draw:Bool)(a:MA)(h:MH):Option MO:=
 match cond draw (match JY ops with|some l=>lG E go ops l [] a h|none=>none) (cond (ops.toList.all zT) (CW E go ops ops.toList a h) none)with
 |some (a',h')=>some ⟨.normal,a',h'⟩
 |none=>none
noncomputable def Qr(l:Nat)(a:MA)(h:MH):Option MO:=
 match h.get l with
 |some (.loop L)=>match L.state with
  | .busy=>none
  |_=>match CY L.pending with
   |some e=>some ⟨e,a,h.set l (.loop {L with state:=.exhausted})⟩
   |none=>none
 |_=>none
noncomputable def ZI(rd:Option Nat)(f:Operand)(ps:Array Tmp)(assign body:Code)(a:MA)(h:MH):Option MO:=
 match a.eval E.G f with
 |some (.fn g first captured)=>match E.ext g,FN a ps.toList assign body rd h with
  |none,some (l,a',h')=>match go (.call g (first++[.dh l]++captured)) h' with
   |some (_,h'')=>Qr l a' h''
   |none=>none
  |_,_=>none
 |_=>none
noncomputable def yg(rd:Option Nat)(ih:Ih)(c:Code)(a:MA)(h:MH):Option MO:=
 match c with
 | .skip=>some ⟨.normal,a,h⟩
 | .label _=>some ⟨.normal,a,h⟩
 | .ret=>some ⟨.ret,a,h⟩
 | .exit id=>some ⟨.exit id,a,h⟩
 | .goto l=>some ⟨.goto l,a,h⟩
 | .seq x y=>ZC ih x y a h
 | .cond c x y=>ZE E ih c x y a h
 | .block id c=>ZF ih id c a h
 | .loop c=>JZ (ih c) 100000 a h
 | .scope c=>ZG ih c a h
 | .region _ ops draw=>ZH E go ops draw a h
 | .rangeFunc f ps assign body=>ZI E go rd f ps assign body a h
 | .refuse _=>none
noncomputable def code(rd:Option Nat)(n:Nat):Code→MA→MH→Option MO:=
 Nat.rec (fun _ _ _=>none) (fun _ ih c a h=>yg E go rd ih c a h) n
end run
section top
variable (E:Env)
noncomputable def zV(l:List MV):Tr MV→Nat→Tr MV:=
 List.rec (fun t _=>t) (fun v _ ih t i=>ih (t.put i v) (Nat.succ i)) l
noncomputable def FO(ps:List Nat):Tr MV→List MV→Option (Tr MV):=
 List.rec (fun t vs=>List.rec (some t) (fun _ _ _=>none) vs) (fun p _ ih t vs=>List.rec none (fun v vs _=>ih (t.put p v) vs) vs) ps
noncomputable def uQ(a:MA)(h:MH)(l:List ResultVar):Option (List MV):=
 List.rec (some []) (fun r _ ih=>
  match r with
  | .tmp t=>match a.tmps.get t,ih with|some v,some vs=>some (v::vs)|_,_=>none
  | .cell p t=>match dG E t,a.tmps.get p,ih with
   |some T,some (.ptr id off),some vs=>match Fv T h id off with|some v=>some (v::vs)|none=>none
   |_,_,_=>none) l
noncomputable def CZ(l:List Nat):MH→Option MH:=List.rec (fun h=>some h) (fun d _ ih h=>match h.get d with|some .sG=>cond (Nat.ble E.G.ro d) (ih (h.set d .dead)) none|_=>none) l
noncomputable def FP(F:Func)(a:MA)(h:MH):Option (MV×MH):=
 match CZ E a.defs h with
 |none=>none
 |some h=>match uQ E a h F.results.toList with
  |some [v]=>some (v,h)
  |some vs=>some (.cu vs,h)
  |none=>none
noncomputable def amw(F:Func):Option MO→Option (MV×MH)
 |some ⟨.normal,a,h⟩=>FP E F a h
 |some ⟨.ret,a,h⟩=>FP E F a h
 |_=>none
noncomputable def Qs(go:Task→MH→Option (MV×MH))(f:FuncId)(args:List MV)(h:MH):Option (MV×MH):=
 match E.fns.get f with
 |some F=>match F.body with
  |some body=>match E.kQ f args h with
   |some r=>some r
   |none=>amw E F (code E go none 1000 body ⟨zV args .nil 0,Nat.max F.ntmps (eH args 0),[]⟩ h)
  |none=>none
 |none=>none
noncomputable def roundEnd(l:Nat):Option MO→Option (MV×MH)
 |some ⟨e,_,h⟩=>match h.get l with
  |some (.loop L)=>some (.bool (match e with | .normal=>true|_=>false),h.set l (.loop {L with state:=(match e with | .normal=>.ready|_=>.done),pending:=amv e}))
  |_=>none
 |none=>none
noncomputable def Qu(go:Task→MH→Option (MV×MH))(l:Nat)(body:Code)(a:MA)(h:MH):Option MO:=
 match h.get l with
 |some (.loop L)=>match L.state with
  | .ready=>code E go (some l) 1000 body a (h.set l (.loop {L with state:=.busy}))
  |_=>none
 |_=>none
noncomputable def Qv(go:Task→MH→Option (MV×MH))(l:Nat)(args:List MV)(h:MH):Option (MV×MH):=
 match h.get l with
 |some (.loop L)=>match cond (and (Nat.ble E.G.ro l) (L.params.all fun p=>Nat.blt p L.nt)) (FO L.params L.tmps args) none with
  |some t=>match code E go (some l) 1000 L.assign ⟨t,L.nt,[]⟩ h with
   |some ⟨.normal,a,h⟩=>roundEnd l (Qu E go l L.body a h)
   |_=>none
  |none=>none
 |_=>none
noncomputable def ZJ(go:Task→MH→Option (MV×MH)):Task→MH→Option (MV×MH)
 | .call f args,h=>Qs E go f args h
 | .round l args,h=>Qv E go l args h
noncomputable def run(n:Nat):Task→MH→Option (MV×MH):=
 Nat.rec (fun _ _=>none) (fun _ ih t h=>ZJ E ih t h) n
end top
end Go.aY
namespace Go.aY
section lists
variable {α:Type}
theorem yh(l:List α):∀n,jd l n=l[n]?:=by
 induction l with
 |nil=>intro n;rfl
 |cons a l ih=>intro n;cases n with
  |zero=>rfl
  |succ n=>exact(ih n).trans (by simp)
theorem ZK(l:List α):∀n v,P7 l n v=l.set n v:=by
 induction l with
 |nil=>intro n v;rfl
 |cons a l ih=>intro n v;cases n with
  |zero=>rfl
  |succ n=>exact congrArg (a::·) (ih n v)
theorem ZL(l:List α):∀n,P8 l n=l.eraseIdx n:=by
 induction l with
 |nil=>intro n;rfl
 |cons a l ih=>intro n;cases n with
  |zero=>rfl
  |succ n=>exact congrArg (a::·) (ih n)
theorem Qw(n:Nat):∀l:List α,Fp n l=l.drop n:=by
 induction n with
 |zero=>intro l;rfl
 |succ n ih=>intro l;cases l with
  |nil=>rfl
  |cons a l=>exact ih l
theorem amx(n:Nat)(a:α)(l:List α):oG (n+1) (a::l)=(oG n l).map (a::·):=by
 show(Option.rec none (fun r=>some (a::r)) (oG n l):Option (List α))=_
 cases oG n l<;>rfl
theorem Qx(n:Nat):∀l:List α,oG n l=if n≤l.length then some (l.take n)else none:=by
 induction n with
 |zero=>intro l;simp;rfl
 |succ n ih=>intro l;cases l with
  |nil=>rfl
  |cons a l=>rw[amx,ih l];by_cases h:n≤l.length<;>simp[h]
theorem C9{n:Nat}{l r:List α}(h:oG n l=some r):n≤l.length∧r=l.take n:=by
 rw[Qx]at h
 split at h
 ·rename_i hn;exact⟨hn,(Option.some.inj h).symm⟩
 ·cases h
theorem lH(l:List α):∀n,eH l n=l.length+n:=by
 induction l with
 |nil=>intro n;simp;rfl
 |cons a l ih=>intro n;exact(ih _).trans (by simp;omega)
theorem Dc(n:Nat)(l:List α):Fq n l=(List.replicate n l).flatten:=by
 induction n with
 |zero=>rfl
 |succ n ih=>exact(congrArg (l++·) ih).trans (by simp[List.replicate_succ])
theorem amy(vs:List α):∀(l:List α),vs.length≤l.length→(Fj vs l).length=l.length∧∀i,(Fj vs l)[i]?=if i<vs.length then vs[i]? else l[i]?:=by
 induction vs with
 |nil=>intro l _;exact⟨rfl,fun i=>by simp;rfl⟩
 |cons v vs ih=>intro l h;cases l with
  |nil=>simp at h
  |cons a l=>
   obtain⟨h1,h2⟩:=ih l (by simpa using h)
   refine⟨by show(v::Fj vs l).length=_;simp[h1],fun i=>?_⟩
   show(v::Fj vs l)[i]?=_
   cases i with
   |zero=>simp
   |succ i=>simp[h2 i]
theorem oK(n:Nat)(vs:List α):∀(l:List α),n+vs.length≤l.length→(jW n vs l).length=l.length∧
  ∀i,(jW n vs l)[i]?=if n≤i∧i<n+vs.length then vs[i-n]? else l[i]?:=by
 induction n with
 |zero=>intro l h;obtain⟨h1,h2⟩:=amy vs l (by omega);exact⟨h1,fun i=>(h2 i).trans (by simp)⟩
 |succ n ih=>intro l h;cases l with
  |nil=>simp at h
  |cons a l=>
   obtain⟨h1,h2⟩:=ih l (by simp at h;omega)
   refine⟨by show(a::jW n vs l).length=_;simp[h1],fun i=>?_⟩
   show(a::jW n vs l)[i]?=_
   cases i with
   |zero=>simp
   |succ i=>
    simp only[List.getElem?_cons_succ,h2 i]
    by_cases hc:n≤i∧i<n+vs.length
    ·rw[if_pos hc,if_pos (by omega)];congr 1;omega
    ·rw[if_neg hc,if_neg (by omega)]
end lists
def kP.dec:kP→Nat
 | .e=>0
 | .l p=>2*p.dec+1
 | .r p=>2*p.dec+2
theorem amz(n k:Nat):zL (n+1) k=Bool.rec (Bool.rec (.r (zL n ((k-1) / 2))) (.l (zL n ((k-1) / 2))) (Nat.beq (k % 2) 1)) .e (Nat.beq k 0):=rfl
theorem amA:∀(n k:Nat),k<n→(zL n k).dec=k:=by
 intro n
 induction n with
 |zero=>intro k h;omega
 |succ n ih=>
  intro k h
  rw[amz]
  cases h0:Nat.beq k 0 with
  |true=>have:=Nat.eq_of_beq_eq_true h0;subst this;rfl
  |false=>
   have hk:k≠0:=fun hk=>by subst hk;cases h0
   cases h1:Nat.beq (k % 2) 1 with
   |true=>
    have:=Nat.eq_of_beq_eq_true h1
    show 2*(zL n ((k-1) / 2)).dec+1=k
    rw[ih _ (by omega)];omega
   |false=>
    have:k % 2≠1:=fun hk=>by rw[hk]at h1;cases h1
    show 2*(zL n ((k-1) / 2)).dec+2=k
    rw[ih _ (by omega)];omega
theorem Qy(k:Nat):(BP k).dec=k:=amA _ _ (Nat.lt_succ_self k)
theorem amB{k k':Nat}(h:BP k=BP k'):k=k':=by rw[←Qy k,h,Qy]
namespace Tr
variable {α:Type}
theorem yj(p:kP):gP p (.nil:Tr α)=none:=by cases p<;>rfl
theorem amC(p:kP)(v:α):∀(q:kP) (t:Tr α),gP q (sP p v t)=if q=p then some v else gP q t:=by
 induction p with
 |e=>intro q t;cases t<;>cases q<;>first|rfl|exact yj _
 |l p ih=>
  intro q t
  cases t with
  |nil=>
   cases q with
   |e=>rfl
   |l q=>show gP q (sP p v .nil)=_;rw[ih,yj,yj];simp only[kP.l.injEq]
   |r q=>show gP q .nil=_;rw[yj];rfl
  |node l a r=>
   cases q with
   |e=>rfl
   |l q=>show gP q (sP p v l)=_;rw[ih];simp only[kP.l.injEq];rfl
   |r q=>rfl
 |r p ih=>
  intro q t
  cases t with
  |nil=>
   cases q with
   |e=>rfl
   |r q=>show gP q (sP p v .nil)=_;rw[ih,yj,yj];simp only[kP.r.injEq]
   |l q=>show gP q .nil=_;rw[yj];rfl
  |node l a r=>
   cases q with
   |e=>rfl
   |r q=>show gP q (sP p v r)=_;rw[ih];simp only[kP.r.injEq];rfl
   |l q=>rfl
theorem get_put(t:Tr α)(k:Nat)(v:α)(k':Nat):(t.put k v).get k'=if k'=k then some v else t.get k':=by
 unfold get put
 rw[amC]
 by_cases h:k'=k
 ·subst h;simp
 ·rw[if_neg h,if_neg (fun e=>h (amB e))]
theorem get_nil(k:Nat):(.nil:Tr α).get k=none:=yj _
end Tr
theorem MH.Df(h:MH)(id:Nat)(b:MB)(k:Nat):(h.set id b).get k=if k=id then some b else h.get k:=Tr.get_put _ _ _ _
theorem MH.zW(h:MH)(b:MB)(k:Nat):(h.new b).get k=if k=h.nx then some b else h.get k:=Tr.get_put _ _ _ _
@[simp] theorem MH.ZM (h:MH) (id:Nat) (b:MB):(h.set id b).nx=h.nx:=rfl
@[simp] theorem MH.amD (h:MH) (b:MB):(h.new b).nx=h.nx+1:=rfl
class dO where
 val:Nat→Value
 single:∀i,(val i).cells=#[val i]
 one:∀i,(val i).oneCell'=true
variable [O:dO]
structure RI where
 blk:Nat
 off:Nat
 cap:Nat
abbrev Sg:=Nat→RI
def bytesV(s:List Nat):ByteArray:=⟨(s.map UInt8.ofNat).toArray⟩
mutual
def af(σ:Sg):MV→Value
 | .bool b=>.bool b
 | .int k n=>.int k n
 | .str s=>.string (bytesV s)
 | .dB=>.pointer none
 | .ptr id off=>.pointer (some ⟨(σ id).blk,(σ id).off+off,none⟩)
 | .bG=>.slice none 0 0
 | .sl id off len cap=>.slice (some ⟨(σ id).blk,(σ id).off+off,none⟩) len cap
 | .bU id off l len=>.slice (some ⟨(σ id).blk,(σ id).off+off,none⟩) len ((σ id).cap-l)
 | .sle id a b l=>.slice (some ⟨(σ id).blk,(σ id).off+(if(σ id).cap=l then a else b),none⟩) 0 ((σ id).cap-l)
 | .bK=>.map none
 | .mp id=>.map (some (σ id).blk)
 | .fn f a b=>.func (.func f) ⟨aH σ a⟩ ⟨aH σ b⟩
 | .dh id=>.func (.yield (σ id).blk) #[] #[]
 | .di=>.nilFunc
 | .dK=>.nilIface
 | .opq i=>O.val i
 | .agg cs=>.agg ⟨aH σ cs⟩
 | .cu vs=>.tuple ⟨aH σ vs⟩
def aH(σ:Sg):List MV→List Value
 | []=>[]
 |v::vs=>af σ v::aH σ vs
end
theorem dZ(σ:Sg)(l:List MV):aH σ l=l.map (af σ):=by
 induction l with
 |nil=>rfl
 |cons a l ih=>simp[aH,ih]
mutual
def wf(σ:Sg)(V:Nat→Prop):MV→Prop
 | .str s=>∀b∈s,b<256
 | .ptr id _=>V id
 | .sl id _ len cap=>V id∧len≤cap
 | .bU id _ l len=>V id∧l+len≤(σ id).cap
 | .sle id _ _ l=>V id∧l≤(σ id).cap
 | .mp id=>V id
 | .dh id=>V id
 | .fn _ a b=>wfs σ V a∧wfs σ V b
 | .agg cs=>wfs σ V cs∧ones cs=true
 | .cu vs=>wfs σ V vs
 |_=>True
def wfs(σ:Sg)(V:Nat→Prop):List MV→Prop
 | []=>True
 |v::vs=>wf σ V v∧wfs σ V vs
end
omit O in
theorem je{σ:Sg}{V:Nat→Prop}(l:List MV):wfs σ V l↔∀v∈l,wf σ V v:=by
 induction l with
 |nil=>simp[wfs]
 |cons a l ih=>simp[wfs,ih]
omit O in
theorem jO(l:List MV):ones l=true↔∀v∈l,one v=true:=by
 induction l with
 |nil=>simp[ones]
 |cons a l ih=>simp[ones,ih]
def dI(V:Nat→Prop)(σ σ':Sg):Prop:=∀id,V id→σ' id=σ id
mutual
theorem uU{V:Nat→Prop}{σ σ':Sg}(h:dI V σ σ'):∀v,wf σ V v→af σ' v=af σ v
 | .bool _,_ | .int _ _,_ | .str _,_ | .dB,_ | .bG,_ | .bK,_ | .di,_ | .dK,_ | .opq _,_=>rfl
 | .ptr id _,hw=>by simp only[wf]at hw;simp only[af,h id hw]
 | .sl id _ _ _,hw=>by simp only[wf]at hw;simp only[af,h id hw.1]
 | .bU id _ _ _,hw=>by simp only[wf]at hw;simp only[af,h id hw.1]
 | .sle id _ _ _,hw=>by simp only[wf]at hw;simp only[af,h id hw.1]
 | .mp id,hw=>by simp only[wf]at hw;simp only[af,h id hw]
 | .dh id,hw=>by simp only[wf]at hw;simp only[af,h id hw]
 | .fn f a b,hw=>by simp only[wf]at hw;simp only[af,zX h a hw.1,zX h b hw.2]
 | .agg cs,hw=>by simp only[wf]at hw;simp only[af,zX h cs hw.1]
 | .cu vs,hw=>by simp only[wf]at hw;simp only[af,zX h vs hw]
theorem zX{V:Nat→Prop}{σ σ':Sg}(h:dI V σ σ'):∀l,wfs σ V l→aH σ' l=aH σ l
 | [],_=>rfl
 |v::vs,hw=>by simp only[wfs]at hw;simp only[aH,uU h v hw.1,zX h vs hw.2]
end
end Go.aY
namespace Go.aY
mutual
theorem Dh{V V':Nat→Prop}{σ σ':Sg}(h:dI V σ σ')(hV:∀id,V id→V' id):∀v,wf σ V v→wf σ' V' v
 | .bool _,_ | .int _ _,_ | .dB,_ | .bG,_ | .bK,_ | .di,_ | .dK,_ | .opq _,_=>trivial
 | .str _,hw=>by simp only[wf]at hw ⊢;exact hw
 | .ptr id _,hw=>by simp only[wf]at hw ⊢;exact hV _ hw
 | .sl id _ _ _,hw=>by simp only[wf]at hw ⊢;exact⟨hV _ hw.1,hw.2⟩
 | .bU id _ _ _,hw=>by simp only[wf]at hw ⊢;exact⟨hV _ hw.1,by rw[h id hw.1];exact hw.2⟩
 | .sle id _ _ _,hw=>by simp only[wf]at hw ⊢;exact⟨hV _ hw.1,by rw[h id hw.1];exact hw.2⟩
 | .mp id,hw=>by simp only[wf]at hw ⊢;exact hV _ hw
 | .dh id,hw=>by simp only[wf]at hw ⊢;exact hV _ hw
 | .fn f a b,hw=>by simp only[wf]at hw ⊢;exact⟨sO h hV a hw.1,sO h hV b hw.2⟩
 | .agg cs,hw=>by simp only[wf]at hw ⊢;exact⟨sO h hV cs hw.1,hw.2⟩
 | .cu vs,hw=>by simp only[wf]at hw ⊢;exact sO h hV vs hw
theorem sO{V V':Nat→Prop}{σ σ':Sg}(h:dI V σ σ')(hV:∀id,V id→V' id):∀l,wfs σ V l→wfs σ' V' l
 | [],_=>trivial
 |v::vs,hw=>by simp only[wfs]at hw ⊢;exact⟨Dh h hV v hw.1,sO h hV vs hw.2⟩
end
variable [O:dO]
theorem FQ(σ:Sg)(v:MV):(af σ v).cells=⟨aH σ v.cells⟩:=by
 cases v<;>first
  |(simp[af,Value.cells,MV.cells,aH];done)
  |(simp only[af,MV.cells,aH];exact O.single _)
omit O in
theorem J3{σ:Sg}{V:Nat→Prop}{v:MV}(h:wf σ V v):wfs σ V v.cells:=by
 cases v<;>simp only[MV.cells,wfs,and_true]<;>first|exact h|(simp only[wf]at h;exact h.1)
mutual
theorem FU(σ:Sg)(V:Nat→Prop):∀(v:Value) (m:MV),jo v=some m→af σ m=v∧wf σ V m
 | .bool b,m,h=>by simp only[jo,Option.some.injEq]at h;subst h;exact⟨rfl,trivial⟩
 | .int k n,m,h=>by simp only[jo,Option.some.injEq]at h;subst h;exact⟨rfl,trivial⟩
 | .string s,m,h=>by
  simp only[jo,Option.some.injEq]at h;subst h
  constructor
  ·simp only[af,bytesV,List.map_map]
   congr 1
   obtain⟨⟨l⟩⟩:=s
   congr 1
   have:(ByteArray.mk ⟨l⟩).toList=l:=by simp
   rw[this]
   congr 1
   conv=>rhs;rw[←List.map_id l]
   congr 1
   funext x;simp
  ·simp only[wf,List.mem_map]
   rintro b ⟨x,-,rfl⟩
   exact x.toNat_lt
 | .pointer none,m,h=>by simp only[jo,Option.some.injEq]at h;subst h;exact⟨rfl,trivial⟩
 | .pointer (some _),m,h=>by simp[jo]at h
 | .slice none 0 0,m,h=>by simp only[jo,Option.some.injEq]at h;subst h;exact⟨rfl,trivial⟩
 | .slice none (_+1) _,m,h=>by simp[jo]at h
 | .slice none 0 (_+1),m,h=>by simp[jo]at h
 | .slice (some _) _ _,m,h=>by simp[jo]at h
 | .map none,m,h=>by simp only[jo,Option.some.injEq]at h;subst h;exact⟨rfl,trivial⟩
 | .map (some _),m,h=>by simp[jo]at h
 | .nilFunc,m,h=>by simp only[jo,Option.some.injEq]at h;subst h;exact⟨rfl,trivial⟩
 | .nilIface,m,h=>by simp only[jo,Option.some.injEq]at h;subst h;exact⟨rfl,trivial⟩
 | .agg ⟨cs⟩,m,h=>by
  simp only[jo]at h
  cases hc:wC cs with
  |none=>rw[hc]at h;cases h
  |some l=>
   rw[hc]at h
   cases ho:ones l with
   |false=>simp[ho]at h
   |true=>
    simp only[ho,cond_true,Option.some.injEq]at h;subst h
    obtain⟨h1,h2⟩:=Qz σ V cs l hc
    exact⟨by simp only[af,h1],by simp only[wf];exact⟨h2,ho⟩⟩
 | .tuple ⟨cs⟩,m,h=>by
  simp only[jo]at h
  cases hc:wC cs with
  |none=>rw[hc]at h;cases h
  |some l=>
   rw[hc]at h;simp only[Option.some.injEq]at h;subst h
   obtain⟨h1,h2⟩:=Qz σ V cs l hc
   exact⟨by simp only[af,h1],by simp only[wf];exact h2⟩
 | .float _ _,m,h | .complex _ _ _,m,h | .chan _,m,h | .func _ _ _,m,h | .iface _ _,m,h=>by simp[jo]at h
theorem Qz(σ:Sg)(V:Nat→Prop):∀(vs:List Value) (l:List MV),wC vs=some l→aH σ l=vs∧wfs σ V l
 | [],l,h=>by simp only[wC,Option.some.injEq]at h;subst h;exact⟨rfl,trivial⟩
 |v::vs,l,h=>by
  simp only[wC]at h
  cases h1:jo v with
  |none=>simp[h1]at h
  |some m=>cases h2:wC vs with
   |none=>simp[h1,h2]at h
   |some ms=>
    simp only[h1,h2,Option.some.injEq]at h;subst h
    obtain⟨a1,a2⟩:=FU σ V v m h1
    obtain⟨b1,b2⟩:=Qz σ V vs ms h2
    exact⟨by simp only[aH,a1,b1],by simp only[wfs];exact⟨a2,b2⟩⟩
end
end Go.aY
namespace Go.aY
variable [O:dO]
open Go.RowKit
structure bM(E:Env)(P:Program):Prop where
 ty:∀t T,E.ty.get t=some T→P.info? t=some T.info∧P.underlying t=some T.und
 fns:∀f F,E.fns.get f=some F→P.funcs[f]?=some F∧F.name≠ "runtime.NumGoroutine"
 ext:∀f k,E.ext f=some k→∀σ V args v,BX k args=some (.val v)→wfs σ V args→wf σ V v∧∀w,(callFunc f ⟨aH σ args⟩).run P w=.ok (.value (af σ v)) w
 cmp:∀t,E.cmp t=true→P.eqGuardType P.depth t=false∧P.stoodInHeld t=false
 mixed:P.follows .mixedOrders=true
 bo:∀op t x y v,E.bo op t x y=some v→∀(σ:Sg) (V:Nat→Prop),wf σ V x→wf σ V y→wf σ V v∧(af σ x≠.nilIface∧∀c,af σ x≠.agg c)∧∀w,(binOp op t (af σ x) (af σ y)).run P w=.ok (af σ v) w
 co:∀s d x v,E.co s d x=some v→∀(σ:Sg) (V:Nat→Prop),wf σ V x→wf σ V v∧∀w,(convert s d (af σ x)).run P w=.ok (af σ v) w
section runs
variable {P:Program} {w:World}
omit O in
theorem FV{t:TypeId}{i:TypeInfo}(h:P.info? t=some i)(w:World):(typeInfo t).run P w=.ok i w:=by
 simp[typeInfo,h]
omit O in
theorem dE{t:TypeId}{d:TypeDesc}(h:P.underlying t=some d)(w:World):(underlying t).run P w=.ok d w:=by
 simp[underlying,h]
omit O in
theorem wH{t:TypeId}{i:TypeInfo}(h:P.info? t=some i)(w:World):(sizeOf t).run P w=.ok i.size w:=by
 simp[sizeOf,typeInfo,h]
omit O in
theorem amE{t:TypeId}{i:TypeInfo}{z:Value}(h:P.info? t=some i)(hz:i.zero=some z)(w:World):(zeroValue t).run P w=.ok z w:=by
 simp[zeroValue,typeInfo,h,hz]
omit O in
theorem ZN{T:MT}{t:TypeId}(h:P.underlying t=some T.und)(w:World):(isAgg t).run P w=.ok (xY T) w:=by
 obtain⟨d,i⟩:=T
 simp only[isAgg,Sem.run_bind,dE h,Result.andThen,xY]
 cases d<;>rfl
end runs
def asg(w:World)(b:Nat)(c:Array Value)(t:TypeId)(fz:Nat×Nat):Prop:=w.heap[b]?=some (.cells c t fz)
def eF(σ:Sg)(e:ME):MapEntry:=⟨af σ e.key,af σ e.val,e.born⟩
def Di(σ:Sg)(V:Nat→Prop)(e:ME):Prop:=wf σ V e.key∧wf σ V e.val
structure pJ(σ:Sg)(V:Nat→Prop)(t:Tr MV)(nt:Nat)(a:Array Value):Prop where
 size:a.size=nt
 cell:∀k v,t.get k=some v→wf σ V v∧a[k]?=some (af σ v)
def oL(σ:Sg)(L:ML)(tm:Array Value)(fn:FuncId):Loop:=
 {state:=L.state,pending:=L.pending,fn,tmps:=tm,params:=⟨L.params⟩,assign:=L.assign,body:=L.body,defers:=(σ L.defers).blk}
def jP(σ:Sg)(V:Nat→Prop)(id:Nat)(w:World):MB→Prop
 | .cells cs t es opn=>∃c fz,w.heap[(σ id).blk]?=some (.cells c t fz)∧wfs σ V cs∧ones cs=true∧
   (∀i v,cs[i]?=some v→c[(σ id).off+i]?=some (af σ v))∧(opn=true→(σ id).off+(σ id).cap*es≤c.size)∧(fz.1=fz.2∨c.size≤fz.1)
 | .map es clock=>w.heap[(σ id).blk]?=some (.map ⟨es.map (eF σ)⟩ clock)∧∀e∈es,Di σ V e
 | .iter m since seen stepped=>w.heap[(σ id).blk]?=some (.mapIter (m.map fun i=>(σ i).blk) since ⟨seen⟩ stepped)∧(σ id).off=0∧∀i,m=some i→V i
 | .loop L=>∃tm fn,w.heap[(σ id).blk]?=some (.loop (oL σ L tm fn))∧pJ σ V L.tmps L.nt tm∧V L.defers
 | .sG=>w.heap[(σ id).blk]?=some (.deferred (some []))
 | .dead=>True
def live:MB→Bool
 | .dead=>false
 |_=>true
structure Kept(B:Nat→Prop)(w w':World):Prop where
 os:w'.os=w.os
 tape:w'.tape=w.tape
 output:w'.output=w.output
 size:w.heap.size≤w'.heap.size
 block:∀k,B k→w'.heap[k]?=w.heap[k]?
omit O in
theorem Kept.refl(B:Nat→Prop)(w:World):Kept B w w:=⟨rfl,rfl,rfl,Nat.le_refl _,fun _ _=>rfl⟩
omit O in
theorem Kept.of_below{B:Nat→Prop}{a b c:World}(h:Kept B a b)(hb:Below b.heap.size b c)(hB:∀k,B k→k<b.heap.size):Kept B a c:=
 ⟨hb.os.trans h.os,hb.tape.trans h.tape,hb.output.trans h.output,Nat.le_trans h.size hb.size,fun k hk=>(hb.block k (hB k hk)).trans (h.block k hk)⟩
omit O in
theorem Kept.alloc{B:Nat→Prop}{a b:World}(h:Kept B a b)(hB:∀k,B k→k<b.heap.size)(o:Obj):Kept B a (b.alloc o):=
 h.of_below ((Below.refl _ _).alloc (Nat.le_refl _) o) hB
omit O in
theorem Kept.drew{B:Nat→Prop}{a b:World}(h:Kept B a b):Kept B a b.drew:=⟨h.os,h.tape,h.output,h.size,h.block⟩
omit O in
theorem Kept.below{n:Nat}{a b:World}(h:Kept (· < n) a b):Below n a b:=⟨h.os,h.tape,h.output,h.size,h.block⟩
structure Rel(G:GB)(B:Nat→Prop)(W0:World)(σ:Sg)(V:Nat→Prop)(h:MH)(w:World):Prop where
 blk:∀id b,V id→h.get id=some b→jP σ V id w b
 inj:∀id id' b b',V id→V id'→h.get id=some b→h.get id'=some b'→live b=true→live b'=true→(σ id).blk=(σ id').blk→id=id'
 own:∀id b,V id→h.get id=some b→live b=true→G.ro≤id→¬B (σ id).blk
 qI:∀id,id<G.g0→V id∧(σ id).blk=id∧(σ id).off=0
 nx:∀id b,h.get id=some b→id<h.nx
 vx:∀id,V id→id<h.nx
 gx:G.ro≤h.nx
 below:Kept B W0 w
theorem jP.has{σ:Sg}{V:Nat→Prop}{id:Nat}{w:World}{b:MB}(h:jP σ V id w b)(hl:live b=true):∃o,w.heap[(σ id).blk]?=some o:=by
 cases b with
 |cells cs t es opn=>obtain⟨c,fz,h,-⟩:=h;exact⟨_,h⟩
 |map es clock=>exact⟨_,h.1⟩
 |iter m since seen stepped=>exact⟨_,h.1⟩
 |loop L=>obtain⟨tm,fn,h,-⟩:=h;exact⟨_,h⟩
 |sG=>exact⟨_,h⟩
 |dead=>cases hl
theorem ZO{V V':Nat→Prop}{σ σ':Sg}(h:dI V σ σ')(hV:∀id,V id→V' id){e:ME}(he:Di σ V e):Di σ' V' e∧eF σ' e=eF σ e:=
 ⟨⟨Dh h hV _ he.1,Dh h hV _ he.2⟩,by unfold eF;rw[uU h _ he.1,uU h _ he.2]⟩
theorem pJ.jf{V V':Nat→Prop}{σ σ':Sg}{t:Tr MV}{nt:Nat}{a:Array Value}(h:dI V σ σ')(hV:∀id,V id→V' id)(ht:pJ σ V t nt a):pJ σ' V' t nt a:=
 ⟨ht.size,fun k v hk=>let⟨h1,h2⟩:=ht.cell k v hk;⟨Dh h hV _ h1,by rw[uU h _ h1];exact h2⟩⟩
theorem jP.jf{V V':Nat→Prop}{σ σ':Sg}{id:Nat}{w w':World}{b:MB}(h:dI V σ σ')(hV:∀id,V id→V' id)(hid:V id)
  (hw:live b=true→w'.heap[(σ id).blk]?=w.heap[(σ id).blk]?) (hb:jP σ V id w b):jP σ' V' id w' b:=by
 have e:=h id hid
 cases b with
 |cells cs t es opn=>
  obtain⟨c,fz,h1,h2,h3,h4,h5,h6⟩:=hb
  refine⟨c,fz,by rw[e,hw rfl];exact h1,sO h hV _ h2,h3,fun i v hv=>?_,by rw[e];exact h5,h6⟩
  rw[e,uU h v ((je _).1 h2 v (List.mem_of_getElem? hv))];exact h4 i v hv
 |map es clock=>
  obtain⟨h1,h2⟩:=hb
  refine⟨?_,fun x hx=>(ZO h hV (h2 x hx)).1⟩
  rw[e,hw rfl,h1]
  congr 3
  exact List.map_congr_left fun x hx=>((ZO h hV (h2 x hx)).2).symm
 |iter m since seen stepped=>
  obtain⟨h1,h0,h2⟩:=hb
  refine⟨?_,by rw[e];exact h0,fun i hi=>hV _ (h2 i hi)⟩
  rw[e,hw rfl,h1]
  cases m with
  |none=>rfl
  |some i=>simp only[Option.map_some,h i (h2 i rfl)]
 |loop L=>
  obtain⟨tm,fn,h1,h2,h3⟩:=hb
  refine⟨tm,fn,?_,h2.jf h hV,hV _ h3⟩
  rw[e,hw rfl,h1]
  simp only[oL,h _ h3]
 |sG=>show w'.heap[(σ' id).blk]?=_;rw[e,hw rfl];exact hb
 |dead=>trivial
def upd(σ:Sg)(id:Nat)(r:RI):Sg:=fun k=>if k=id then r else σ k
omit O in
theorem upd_same(σ:Sg)(id:Nat)(r:RI):upd σ id r id=r:=by simp[upd]
omit O in
theorem upd_ne(σ:Sg){id k:Nat}(r:RI)(h:k≠id):upd σ id r k=σ k:=by simp[upd,h]
omit O in
theorem qJ{V:Nat→Prop}(σ:Sg){id:Nat}(r:RI)(h:¬V id):dI V σ (upd σ id r):=fun _ hk=>upd_ne σ r (fun e=>h (e▸hk))
def iy(V:Nat→Prop)(id:Nat):Nat→Prop:=fun k=>V k∨k=id
section rel
variable {G:GB} {B:Nat→Prop} {W0:World} {σ:Sg} {V:Nat→Prop} {h:MH} {w:World}
theorem Rel.lt(R:Rel G B W0 σ V h w){id:Nat}{b:MB}(hv:V id)(hb:h.get id=some b)(hl:live b=true):(σ id).blk<w.heap.size:=by
 obtain⟨o,ho⟩:=(R.blk id b hv hb).has hl
 exact(Array.getElem?_eq_some_iff.1 ho).1
theorem Rel.drew(R:Rel G B W0 σ V h w):Rel G B W0 σ V h w.drew:=
 ⟨fun id b hv hb=>(R.blk id b hv hb).jf (fun _ _=>rfl) (fun _ hx=>hx) hv (fun _=>rfl),R.inj,R.own,R.qI,R.nx,R.vx,R.gx,R.below.drew⟩
theorem Rel.ghost(R:Rel G B W0 σ V h w)(b:MB):Rel G B W0 σ V (h.new b) w:=by
 have hne:∀id,V id→id≠h.nx:=fun id hv e=>Nat.lt_irrefl _ (e▸R.vx id hv)
 have hg:∀id,V id→(h.new b).get id=h.get id:=fun id hv=>by rw[MH.zW,if_neg (hne id hv)]
 refine⟨fun id b' hv hb=>R.blk id b' hv (by rw[←hg id hv];exact hb),fun id id' b1 b2 hv hv' h1 h2=>R.inj id id' b1 b2 hv hv' (by rw[←hg id hv];exact h1) (by rw[←hg id' hv'];exact h2),
  fun id b' hv hb=>R.own id b' hv (by rw[←hg id hv];exact hb),R.qI,fun id b' hb=>?_,fun id hv=>Nat.lt_succ_of_lt (R.vx id hv),Nat.le_succ_of_le R.gx,R.below⟩
 rw[MH.zW]at hb
 split at hb
 ·rename_i e;subst e;exact Nat.lt_succ_self _
 ·exact Nat.lt_succ_of_lt (R.nx id b' hb)
theorem Rel.ZP(R:Rel G B W0 σ V h w){id:Nat}{b:MB}{o:Obj}(hB:∀k,B k→k<w.heap.size)(hv:¬V id)(hb:h.get id=some b)(hG:G.ro≤id)(off cap:Nat)
  (hblk:jP (upd σ id ⟨w.heap.size,off,cap⟩) (iy V id) id (w.alloc o) b):Rel G B W0 (upd σ id ⟨w.heap.size,off,cap⟩) (iy V id) h (w.alloc o):=by
 have ha:=qJ (V:=V) σ ⟨w.heap.size,off,cap⟩ hv
 have hV:∀k,V k→iy V id k:=fun k hk=>.inl hk
 refine⟨fun id' b' hv' hb'=>?_,fun FW FX b1 b2 hv1 hv2 h1 h2 l1 l2 he=>?_,fun id' b' hv' hb' hl hg=>?_,fun k hk=>?_,R.nx,fun k hk=>?_,R.gx,R.below.alloc hB o⟩
 ·rcases hv' with hv'|rfl
  ·refine(R.blk id' b' hv' hb').jf ha hV hv' (fun hl=>?_)
   exact Below.heap_alloc w o _ (R.lt hv' hb' hl)
  ·rw[hb]at hb';cases hb';exact hblk
 ·rcases hv1 with hv1|rfl<;>rcases hv2 with hv2|rfl
  ·rw[ha _ hv1,ha _ hv2]at he;exact R.inj _ _ _ _ hv1 hv2 h1 h2 l1 l2 he
  ·rw[ha _ hv1,upd_same]at he;have:=R.lt hv1 h1 l1;simp only at he;omega
  ·rw[ha _ hv2,upd_same]at he;have:=R.lt hv2 h2 l2;simp only at he;omega
  ·rfl
 ·rcases hv' with hv'|rfl
  ·rw[ha _ hv'];exact R.own id' b' hv' hb' hl hg
  ·rw[upd_same];exact fun h=>Nat.lt_irrefl _ (hB _ h)
 ·obtain⟨h1,h2,h3⟩:=R.qI k hk
  refine⟨.inl h1,?_⟩
  rw[ha _ h1];exact⟨h2,h3⟩
 ·rcases hk with hk|rfl
  ·exact R.vx k hk
  ·exact R.nx _ _ hb
theorem Rel.alloc(R:Rel G B W0 σ V h w){b:MB}{o:Obj}(hB:∀k,B k→k<w.heap.size)(off cap:Nat)
  (hblk:jP (upd σ h.nx ⟨w.heap.size,off,cap⟩) (iy V h.nx) h.nx (w.alloc o) b):Rel G B W0 (upd σ h.nx ⟨w.heap.size,off,cap⟩) (iy V h.nx) (h.new b) (w.alloc o):=
 (R.ghost b).ZP hB (fun hv=>Nat.lt_irrefl _ (R.vx _ hv)) (by rw[MH.zW,if_pos rfl]) R.gx off cap hblk
theorem Rel.write(R:Rel G B W0 σ V h w){id:Nat}{b0 b:MB}(hv:V id)(hb0:h.get id=some b0)(hl0:live b0=true)(hG:G.ro≤id)(o:Obj)
  (hblk:jP σ V id (w.putObj (σ id).blk o) b):Rel G B W0 σ V (h.set id b) (w.putObj (σ id).blk o):=by
 have hget:∀k,k≠id→(h.set id b).get k=h.get k:=fun k hk=>by rw[MH.Df,if_neg hk]
 have hsame:(h.set id b).get id=some b:=by rw[MH.Df,if_pos rfl]
 have hheap:∀k,k≠(σ id).blk→(w.putObj (σ id).blk o).heap[k]?=w.heap[k]?:=fun k hk=>by
  simp only[World.putObj];exact Array.getElem?_setIfInBounds_ne (Ne.symm hk)
 have hown:=R.own id b0 hv hb0 hl0 hG
 refine⟨fun k b' hk hb'=>?_,fun FW FX b1 b2 hv1 hv2 h1 h2 l1 l2 he=>?_,fun k b' hk hb' hl hg=>?_,R.qI,fun k b' hb'=>?_,R.vx,R.gx,
  ⟨R.below.os,R.below.tape,R.below.output,by simpa[World.putObj]using R.below.size,fun k hk=>by rw[hheap k (fun e=>hown (e▸hk))];exact R.below.block k hk⟩⟩
 ·by_cases e:k=id
  ·subst e;rw[hsame]at hb';cases hb';exact hblk
  ·rw[hget k e]at hb'
   refine(R.blk k b' hk hb').jf (fun _ _=>rfl) (fun _ hx=>hx) hk (fun hl=>hheap _ (fun e'=>e ?_))
   exact R.inj k id b' b0 hk hv hb' hb0 hl hl0 e'
 ·by_cases e1:FW=id<;>by_cases e2:FX=id
  ·rw[e1,e2]
  ·subst e1;rw[hget _ e2]at h2;exact R.inj _ _ _ _ hv1 hv2 hb0 h2 hl0 l2 he
  ·subst e2;rw[hget _ e1]at h1;exact R.inj _ _ _ _ hv1 hv2 h1 hb0 l1 hl0 he
  ·rw[hget _ e1]at h1;rw[hget _ e2]at h2;exact R.inj _ _ _ _ hv1 hv2 h1 h2 l1 l2 he
 ·by_cases e:k=id
  ·subst e;exact hown
  ·rw[hget k e]at hb';exact R.own k b' hk hb' hl hg
 ·by_cases e:k=id
  ·subst e;exact R.nx _ _ hb0
  ·rw[hget k e]at hb';exact R.nx k b' hb'
theorem Rel.kill(R:Rel G B W0 σ V h w){id:Nat}{b0:MB}(hb0:h.get id=some b0):Rel G B W0 σ V (h.set id .dead) w:=by
 have hget:∀k,k≠id→(h.set id .dead).get k=h.get k:=fun k hk=>by rw[MH.Df,if_neg hk]
 have hsame:(h.set id .dead).get id=some .dead:=by rw[MH.Df,if_pos rfl]
 refine⟨fun k b' hk hb'=>?_,fun FW FX b1 b2 hv1 hv2 h1 h2 l1 l2 he=>?_,fun k b' hk hb' hl hg=>?_,R.qI,fun k b' hb'=>?_,R.vx,R.gx,R.below⟩
 ·by_cases e:k=id
  ·subst e;rw[hsame]at hb';cases hb';trivial
  ·rw[hget k e]at hb';exact R.blk k b' hk hb'
 ·by_cases e1:FW=id
  ·subst e1;rw[hsame]at h1;cases h1;cases l1
  ·by_cases e2:FX=id
   ·subst e2;rw[hsame]at h2;cases h2;cases l2
   ·rw[hget _ e1]at h1;rw[hget _ e2]at h2;exact R.inj _ _ _ _ hv1 hv2 h1 h2 l1 l2 he
 ·by_cases e:k=id
  ·subst e;rw[hsame]at hb';cases hb';cases hl
  ·rw[hget k e]at hb';exact R.own k b' hk hb' hl hg
 ·by_cases e:k=id
  ·subst e;exact R.nx _ _ hb0
  ·rw[hget k e]at hb';exact R.nx k b' hb'
theorem Rel.size(R:Rel G B W0 σ V h w)(hW:∀k,B k→k<W0.heap.size):∀k,B k→k<w.heap.size:=fun k hk=>Nat.lt_of_lt_of_le (hW k hk) R.below.size
end rel
end Go.aY
namespace Go.aY
variable [O:dO]
open Go.RowKit
def eP(σ:Sg)(V:Nat→Prop)(ev:Ev)(ρ:Operand→Value):Prop:=∀x v,ev x=some v→wf σ V v∧ρ x=af σ v
omit O in
theorem Sem.bind_ok{α β:Type}{P:Program}{w w':World}{x:Sem α}{f:α→Sem β}{a:α}(h:x.run P w=.ok a w'):(x >>= f).run P w=(f a).run P w':=by
 rw[Sem.run_bind,h];rfl
section looks
variable {E:Env} {P:Program} {B:Nat→Prop} {W0:World} {σ:Sg} {V:Nat→Prop} {h:MH} {w:World} {ev:Ev} {ρ:Operand→Value}
omit O in
theorem pK{o:Option MV}{v:MV}(h:vR o=some (.val v)):o=some v:=by
 unfold vR at h;split at h
 ·simpa using h
 ·cases h
omit O in
theorem QC(x:Operand)(l:List Operand):evs ev (x::l)=(match ev x with|none=>none|some v=>match evs ev l with|none=>none|some vs=>some (v::vs)):=by
 show(Option.rec none (fun v=>Option.rec none (fun vs=>some (v::vs)) (evs ev l)) (ev x):Option (List MV))=_
 cases ev x with
 |none=>rfl
 |some v=>cases evs ev l<;>rfl
theorem QE(hev:eP σ V ev ρ):∀(l:List Operand) (vs:List MV),evs ev l=some vs→wfs σ V vs∧l.map ρ=aH σ vs:=by
 intro l
 induction l with
 |nil=>
   intro vs h
   have e:evs ev []=some []:=rfl
   rw[e]at h;cases h
   exact⟨trivial,rfl⟩
 |cons x l ih=>
  intro vs h
  rw[QC]at h
  split at h
  ·cases h
  ·rename_i v hv
   split at h
   ·cases h
   ·rename_i us hu
    cases h
    obtain⟨h1,h2⟩:=hev x v hv
    obtain⟨h3,h4⟩:=ih us hu
    exact⟨by simp only[wfs];exact⟨h1,h3⟩,by simp only[List.map_cons,h2,h4,aH]⟩
theorem yl(R:Rel E.G B W0 σ V h w){id off n:Nat}{l:List MV}(hv:V id)(hr:sH h id off n=some l) :
  wfs σ V l∧ones l=true∧l.length=n∧∀i v,l[i]?=some v→w.cell? ⟨(σ id).blk,(σ id).off+off+i,none⟩=some (af σ v):=by
 unfold sH at hr
 split at hr
 ·rename_i cs t es opn hg
  obtain⟨c,fz,h1,h2,h3,h4,-,-⟩:=R.blk id _ hv hg
  obtain⟨hn,rfl⟩:=C9 hr
  rw[Qw]at hn ⊢
  have hmem:∀v∈(cs.drop off).take n,v∈cs:=fun v hv=>List.mem_of_mem_drop (List.mem_of_mem_take hv)
  refine⟨(je _).2 fun v hv=>(je _).1 h2 v (hmem v hv),(jO _).2 fun v hv=>(jO _).1 h3 v (hmem v hv),by simp at hn ⊢;omega,fun i v hi=>?_⟩
  have hi':cs[off+i]?=some v:=by
   rw[List.getElem?_take]at hi
   split at hi
   ·rw[List.getElem?_drop]at hi;exact hi
   ·cases hi
  have:=h4 _ _ hi'
  simp only[World.cell?,h1]
  rw[if_neg (by simp),Nat.add_assoc];exact this
 ·cases hr
theorem FY{id off:Nat}{l:List MV}(hc:∀i v,l[i]?=some v→w.cell? ⟨(σ id).blk,(σ id).off+off+i,none⟩=some (af σ v)) :
  (loadCells ⟨(σ id).blk,(σ id).off+off,none⟩ l.length).run P w=.ok ⟨aH σ l⟩ w:=by
 have:=run_loadCells_list (P:=P) (w:=w) ⟨(σ id).blk,(σ id).off+off,none⟩ (aH σ l) (fun j v hj=>by
  rw[dZ,List.getElem?_map]at hj
  cases hl:l[j]? with
  |none=>rw[hl]at hj;cases hj
  |some u=>
   rw[hl]at hj;cases hj
   rw[Addr.add_lit];exact hc j u hl)
 rw[show(aH σ l).length=l.length by rw[dZ];simp]at this
 exact this
theorem ZQ(hE:bM E P)(R:Rel E.G B W0 σ V h w){t:TypeId}{T:MT}{id off:Nat}{v:MV}(hT:E.ty.get t=some T)(hv:V id)(hr:Fv T h id off=some v) :
  wf σ V v∧(loadVar t ⟨(σ id).blk,(σ id).off+off,none⟩).run P w=.ok (af σ v) w:=by
 obtain⟨hi,hu⟩:=hE.ty t T hT
 unfold Fv at hr
 split at hr
 ·rename_i cs e es opn hg
  unfold partOf at hr
  unfold loadVar
  rw[Sem.bind_ok (ZN hu w)]
  cases ha:xY T with
  |true=>
   rw[ha]at hr
   simp only[cond_true]at hr
   split at hr
   ·rename_i l hl
    cases hr
    have hrc:sH h id off T.info.size=some l:=by unfold sH;rw[hg];exact hl
    obtain⟨h1,h2,h3,h4⟩:=yl R hv hrc
    refine⟨by simp only[wf];exact⟨h1,h2⟩,?_⟩
    simp only[if_true]
    rw[Sem.bind_ok (wH hi w)]
    rw[←h3,Sem.bind_ok (FY h4)]
    simp only[Sem.run_pure,af]
   ·cases hr
  |false=>
   rw[ha]at hr
   simp only[cond_false]at hr
   obtain⟨c,fz,h1,h2,h3,h4,-,-⟩:=R.blk id _ hv hg
   rw[yh]at hr
   refine⟨(je _).1 h2 v (List.mem_of_getElem? hr),?_⟩
   have hc:w.cell? ⟨(σ id).blk,(σ id).off+off,none⟩=some (af σ v):=by
    simp only[World.cell?,h1]
    rw[if_neg (by simp)];exact h4 _ _ hr
   simp only[Bool.false_eq_true,if_false,run_load,hc]
 ·cases hr
theorem amF(hE:bM E P)(R:Rel E.G B W0 σ V h w)(hev:eP σ V ev ρ){t:TypeId}{x:Operand}{v:MV}(ho:Ce E ev t x h=some (.val v)) :
  wf σ V v∧(Instr.loadAt t (ρ x)).run P w=.ok (af σ v) w:=by
 unfold Ce at ho
 split at ho
 ·rename_i T id off hT hx
  obtain⟨h1,h2⟩:=hev x _ hx
  simp only[wf]at h1
  have:=ZQ hE R hT h1 (pK ho)
  refine⟨this.1,?_⟩
  rw[h2]
  simp only[Instr.loadAt,Instr.sureAddr,af,pure_bind]
  exact this.2
 ·cases ho
theorem J4(hE:bM E P){t:TypeId}{T:MT}{cs:List MV}{off:Nat}{v:MV}(hT:E.ty.get t=some T)(hc:wfs σ V cs)(h1:ones cs=true)(hp:partOf T cs off=some v)(w:World) :
  wf σ V v∧(part t ⟨aH σ cs⟩ off).run P w=.ok (af σ v) w:=by
 obtain⟨hi,hu⟩:=hE.ty t T hT
 unfold partOf at hp
 unfold part
 rw[Sem.bind_ok (ZN hu w)]
 cases ha:xY T with
 |true=>
  rw[ha]at hp
  simp only[cond_true]at hp
  split at hp
  ·rename_i l hl
   cases hp
   obtain⟨hn,rfl⟩:=C9 hl
   rw[Qw]at hn ⊢
   have hmem:∀v∈(cs.drop off).take T.info.size,v∈cs:=fun v hv=>List.mem_of_mem_drop (List.mem_of_mem_take hv)
   refine⟨by simp only[wf];exact⟨(je _).2 fun v hv=>(je _).1 hc v (hmem v hv),(jO _).2 fun v hv=>(jO _).1 h1 v (hmem v hv)⟩,?_⟩
   simp only[if_true]
   rw[Sem.bind_ok (wH hi w)]
   simp only[Sem.run_pure,af]
   congr 2
   rw[dZ,dZ,←Array.toList_inj,Array.toList_extract]
   simp[List.extract_eq_take_drop,List.map_take,List.map_drop]
  ·cases hp
 |false=>
  rw[ha]at hp
  simp only[cond_false]at hp
  rw[yh]at hp
  refine⟨(je _).1 hc v (List.mem_of_getElem? hp),?_⟩
  have:(⟨aH σ cs⟩:Array Value)[off]?=some (af σ v):=by
   rw[dZ];simp[hp]
  simp only[Bool.false_eq_true,if_false,this,Sem.run_pure]
theorem ZR(hE:bM E P){t:TypeId}{T:MT}{f:Nat}{F:Field}(hT:E.ty.get t=some T)(hf:JF T f=some F) :
  ∃fs,P.underlying t=some (.struct fs)∧fs[f]?=some F:=by
 obtain⟨hi,hu⟩:=hE.ty t T hT
 unfold JF at hf
 split at hf
 ·rename_i fs hs
  rw[hs]at hu
  rw[yh]at hf
  exact⟨fs,hu,by simpa using hf⟩
 ·cases hf
theorem amG(hE:bM E P)(hev:eP σ V ev ρ){t:TypeId}{x:Operand}{f:Nat}{v:MV}(ho:CJ E ev t x f=some (.val v))(w:World) :
  wf σ V v∧(Instr.field t (ρ x) f).run P w=.ok (af σ v) w:=by
 unfold CJ at ho
 split at ho
 ·rename_i T cs hT hx
  split at ho
  ·rename_i F hF
   split at ho
   ·rename_i FT hFT
    obtain⟨h1,h2⟩:=hev x _ hx
    simp only[wf]at h1
    obtain⟨fs,hu,hf⟩:=ZR hE hT hF
    have:=J4 hE hFT h1.1 h1.2 (pK ho) w
    refine⟨this.1,?_⟩
    unfold Instr.field
    rw[Sem.bind_ok (dE hu w),h2]
    simp only[hf,af,asAgg,pure_bind]
    exact this.2
   ·cases ho
  ·cases ho
 ·cases ho
theorem sQ(hE:bM E P){t:TypeId}{n:Nat}(hs:pI E t=some n)(w:World):(sizeOf t).run P w=.ok n w:=by
 unfold pI at hs
 split at hs
 ·rename_i T hT
  cases hs
  exact wH (hE.ty t T hT).1 w
 ·cases hs
theorem amI(hE:bM E P)(hev:eP σ V ev ρ){t:TypeId}{x:Operand}{f:Nat}{v:MV}(ho:CG E ev t x f=some (.val v))(w:World) :
  wf σ V v∧(Instr.fieldAt t (ρ x) f).run P w=.ok (af σ v) w:=by
 unfold CG at ho
 split at ho
 ·rename_i T id off hT hx
  split at ho
  ·rename_i F hF
   split at ho
   ·rename_i n hn
    cases hz:Nat.beq n 0 with
    |true=>simp[hz]at ho
    |false=>
     simp only[hz,cond_false,Option.some.injEq,MR.val.injEq]at ho
     subst ho
     have hn0:n≠0:=fun e=>by subst e;cases hz
     obtain⟨h1,h2⟩:=hev x _ hx
     simp only[wf]at h1
     obtain⟨fs,hu,hf⟩:=ZR hE hT hF
     refine⟨h1,?_⟩
     unfold Instr.fieldAt
     rw[Sem.bind_ok (dE hu w),h2]
     simp only[hf,af,Instr.sureAddr,pure_bind]
     unfold fieldPlace
     rw[bind_assoc,Sem.bind_ok (sQ hE hn w)]
     simp only[hn0,if_false,pure_bind,Sem.run_pure,Addr.add_lit]
     simp[Nat.add_assoc]
   ·cases ho
  ·cases ho
 ·cases ho
omit O in
theorem ZT{v:MV}{n:Nat}(hn:JG v=some n):∃k,v=.int k (.ofNat n):=by
 unfold JG at hn
 split at hn
 ·cases hn;exact⟨_,rfl⟩
 ·cases hn
theorem J5(hev:eP σ V ev ρ){x:Operand}{n:Nat}(hn:wF ev x=some n):∃k,ρ x=.int k (.ofNat n):=by
 unfold wF at hn
 split at hn
 ·rename_i v hv
  obtain⟨k,rfl⟩:=ZT hn
  exact⟨k,(hev x _ hv).2⟩
 ·cases hn
theorem QF(hE:bM E P){e:TypeId}{id off len i:Nat}{v:MV}(hv:V id)(ho:zQ E e id off len i=some (.val v))(w:World) :
  wf σ V v∧i<len∧∃n,(sizeOf e).run P w=.ok n w∧af σ v=.pointer (some ⟨(σ id).blk,(σ id).off+off+i*n,none⟩):=by
 unfold zQ at ho
 split at ho
 ·rename_i n hn
  cases hb:Nat.blt i len with
  |false=>simp[hb]at ho
  |true=>
   simp only[hb,cond_true,Option.some.injEq,MR.val.injEq]at ho
   subst ho
   exact⟨hv,by simpa[Nat.blt_eq]using hb,n,sQ hE hn w,by simp[af,Nat.add_assoc]⟩
 ·cases ho
theorem amJ(hE:bM E P)(hev:eP σ V ev ρ){t:TypeId}{x i:Operand}{v:MV}(ho:CO E ev t x i=some (.val v))(w:World) :
  wf σ V v∧(Instr.indexAt t (ρ x) (ρ i)).run P w=.ok (af σ v) w:=by
 unfold CO at ho
 split at ho
 ·rename_i T xv n hT hx hn
  obtain⟨k,hk⟩:=J5 hev hn
  obtain⟨h1,h2⟩:=hev x _ hx
  obtain⟨hi,hu⟩:=hE.ty t T hT
  unfold Instr.indexAt
  rw[hk]
  simp only[asIntOf,pure_bind]
  rw[Sem.bind_ok (dE hu w),h2]
  split at ho
  ·rename_i m e id off hd
   simp only[wf]at h1
   obtain⟨g1,g2,s,g3,g4⟩:=QF (σ:=σ) (V:=V) hE h1 ho w
   refine⟨g1,?_⟩
   simp only[hd,af,Instr.sureAddr,pure_bind]
   rw[Sem.bind_ok (dE hu w)]
   have hlt:(0:Int)≤Int.ofNat n∧Int.ofNat n<(m:Int):=⟨Int.natCast_nonneg n,by simpa using g2⟩
   simp only[hlt,and_self,if_true]
   rw[Sem.bind_ok g3]
   simp only[Sem.run_pure,Addr.add_lit,g4]
   rfl
  ·rename_i e id off len cap hd
   simp only[wf]at h1
   obtain⟨g1,g2,s,g3,g4⟩:=QF (σ:=σ) (V:=V) hE h1.1 ho w
   refine⟨g1,?_⟩
   simp only[hd,af]
   rw[Sem.bind_ok (dE hu w)]
   have hlt:(0:Int)≤Int.ofNat n∧Int.ofNat n<(len:Int):=⟨Int.natCast_nonneg n,by simpa using g2⟩
   simp only[hlt,and_self,if_true]
   rw[Sem.bind_ok g3]
   simp only[Sem.run_pure,Addr.add_lit,g4]
   rfl
  ·rename_i e id off l len hd
   simp only[wf]at h1
   obtain⟨g1,g2,s,g3,g4⟩:=QF (σ:=σ) (V:=V) hE h1.1 ho w
   refine⟨g1,?_⟩
   simp only[hd,af]
   rw[Sem.bind_ok (dE hu w)]
   have hlt:(0:Int)≤Int.ofNat n∧Int.ofNat n<(len:Int):=⟨Int.natCast_nonneg n,by simpa using g2⟩
   simp only[hlt,and_self,if_true]
   rw[Sem.bind_ok g3]
   simp only[Sem.run_pure,Addr.add_lit,g4]
   rfl
  ·cases ho
 ·cases ho
end looks
end Go.aY
namespace Go.aY
variable [O:dO]
open Go.RowKit
theorem ZU{P:Program}{s:Sem Value}{m:MV}(σ:Sg)(V:Nat→Prop)(h:JE s=some m)(w:World):wf σ V m∧s.run P w=.ok (af σ m) w:=by
 unfold JE at h
 split at h
 ·rename_i v
  obtain⟨h1,h2⟩:=FU σ V v m h
  exact⟨h2,by rw[h1];rfl⟩
 ·cases h
omit O in
theorem yu(a:List Nat):(bytesV a).toList=a.map UInt8.ofNat:=by simp[bytesV]
omit O in
theorem ZV{a b:Nat}(ha:a<256)(hb:b<256)(h:UInt8.ofNat a=UInt8.ofNat b):a=b:=by
 have:=congrArg UInt8.toNat h
 simp at this
 omega
omit O in
theorem QG:∀{a b:List Nat},(∀x∈a,x<256)→(∀x∈b,x<256)→(a.map UInt8.ofNat=b.map UInt8.ofNat↔a=b):=by
 intro a
 induction a with
 |nil=>intro b _ _;cases b<;>simp
 |cons x a ih=>
  intro b ha hb
  cases b with
  |nil=>simp
  |cons y b=>
   simp only[List.map_cons,List.cons.injEq]
   rw[ih (fun z hz=>ha z (by simp[hz])) (fun z hz=>hb z (by simp[hz]))]
   constructor
   ·rintro⟨h1,h2⟩;exact⟨ZV (ha x (by simp)) (hb y (by simp)) h1,h2⟩
   ·rintro⟨h1,h2⟩;exact⟨by rw[h1],h2⟩
omit O in
theorem J6:∀(a b:List Nat),xZ a b=decide (a=b):=by
 intro a
 induction a with
 |nil=>intro b;cases b<;>rfl
 |cons x a ih=>
  intro b
  cases b with
  |nil=>rfl
  |cons y b=>
   show and (Nat.beq x y) (xZ a b)=_
   rw[ih b]
   by_cases hx:x=y
   ·subst hx;simp
   ·have:Nat.beq x y=false:=by cases hb:Nat.beq x y;rfl;exact absurd (Nat.eq_of_beq_eq_true hb) hx
    simp[this,hx]
omit O in
theorem amK:∀(a b:List Nat),(∀x∈a,x<256)→(∀x∈b,x<256)→zN a b=Op.bytesLess (a.map UInt8.ofNat) (b.map UInt8.ofNat):=by
 intro a
 induction a with
 |nil=>intro b _ _;cases b<;>rfl
 |cons x a ih=>
  intro b ha hb
  cases b with
  |nil=>rfl
  |cons y b=>
   have hx:=ha x (by simp)
   have hy:=hb y (by simp)
   show or (Nat.blt x y) (and (Nat.beq x y) (zN a b))=_
   rw[ih b (fun z hz=>ha z (by simp[hz])) (fun z hz=>hb z (by simp[hz]))]
   simp only[List.map_cons,Op.bytesLess]
   have e1:Nat.blt x y=decide (UInt8.ofNat x<UInt8.ofNat y):=by
    rw[Bool.eq_iff_iff]
    simp only[Nat.blt_eq,decide_eq_true_eq,UInt8.lt_iff_toNat_lt]
    simp
    rw[Nat.mod_eq_of_lt hx,Nat.mod_eq_of_lt hy]
   have e2:Nat.beq x y=(UInt8.ofNat x == UInt8.ofNat y):=by
    rw[Bool.eq_iff_iff,beq_iff_eq]
    exact⟨fun h=>by rw[Nat.eq_of_beq_eq_true h],fun h=>by rw[ZV hx hy h];exact Nat.beq_refl y⟩
   rw[e1,e2]
omit O in
theorem wI(a:List Nat):(bytesV a).size=a.length:=by simp[bytesV,ByteArray.size]
omit O in
theorem amL(a b:List Nat):bytesV a++bytesV b=bytesV (a++b):=by
 apply ByteArray.ext
 rw[ByteArray.data_append]
 simp[bytesV]
omit O in
theorem QH(a b:ByteArray):(a == b)=decide (a.toList=b.toList):=by
 obtain⟨⟨x⟩⟩:=a
 obtain⟨⟨y⟩⟩:=b
 have e:((ByteArray.mk ⟨x⟩) == (ByteArray.mk ⟨y⟩))=((⟨x⟩:Array UInt8) == ⟨y⟩):=rfl
 rw[e,Bool.eq_iff_iff]
 simp
section ops
variable {E:Env} {P:Program} {B:Nat→Prop} {W0:World} {σ:Sg} {V:Nat→Prop} {h:MH} {w:World} {ev:Ev} {ρ:Operand→Value}
theorem amM{op:BinOp}{a b:List Nat}{m:MV}(ha:∀x∈a,x<256)(hb:∀x∈b,x<256)(ho:P9 op a b=some m)(w:World) :
  wf σ V m∧(Op.stringOp op (bytesV a) (bytesV b)).run P w=.ok (af σ m) w:=by
 have heq:((bytesV a).toList == (bytesV b).toList)=xZ a b:=by
  rw[yu,yu,J6,Bool.eq_iff_iff]
  simp only[beq_iff_eq,decide_eq_true_eq]
  exact QG ha hb
 have hlt:Op.bytesLess (bytesV a).toList (bytesV b).toList=zN a b:=by rw[yu,yu,amK a b ha hb]
 unfold P9 at ho
 unfold Op.stringOp
 simp only[heq,hlt]
 cases op<;>simp only at ho
 case add=>
  cases hc:Nat.ble (Nat.add (eH a 0) (eH b 0)) 1048576 with
  |false=>rw[hc]at ho;cases ho
  |true=>
   rw[hc]at ho
   simp only[cond_true,Option.some.injEq]at ho
   subst ho
   rw[lH,lH]at hc
   have hc':=Nat.le_of_ble_eq_true hc
   simp only[Nat.add_zero,Nat.add_eq]at hc'
   refine⟨by simp only[wf,List.mem_append];rintro x (hx|hx);exact ha x hx;exact hb x hx,?_⟩
   rw[wI,wI,if_neg (by simp only[IntKind.max,IntKind.signed,IntKind.bits];simp;omega)]
   simp only[Sem.run_pure,af,amL]
 all_goals first|(cases ho;done)|(simp only[Option.some.injEq]at ho;subst ho;exact⟨trivial,rfl⟩)
theorem ZW{y:MV}(h:BQ y=true):∃a n c,af σ y=.slice (some a) n c:=by
 cases y<;>simp only[BQ,Bool.false_eq_true]at h<;>exact⟨_,_,_,rfl⟩
theorem ZX{y:MV}(h:isFn y=true):∃f a b,af σ y=.func f a b:=by
 cases y<;>simp only[isFn,Bool.false_eq_true]at h<;>exact⟨_,_,_,rfl⟩
theorem J7{t:TypeId}{d:TypeDesc}{x y:MV}{b:Bool}(hu:P.underlying t=some d)(hx:wf σ V x)(hy:wf σ V y)(he:nI d x y=some b)(n:Nat)(w:World) :
  (Op.equalIn (n+1) t (af σ x) (af σ y)).run P w=.ok b w:=by
 unfold Op.equalIn
 rw[Sem.bind_ok (dE hu w)]
 unfold nI at he
 cases d<;>simp only at he
 case bool=>
  split at he
  ·cases he;rfl
  ·cases he
 case int k0=>
  split at he
  ·rename_i k a k' b'
   by_cases hk:k=k'
   ·subst hk
    simp only[decide_true,cond_true,Option.some.injEq]at he
    subst he
    simp only[af]
    simp
    rfl
   ·simp[hk]at he
  ·cases he
 case string=>
  split at he
  ·rename_i a b'
   simp only[Option.some.injEq]at he
   subst he
   simp only[wf]at hx hy
   simp only[af,Sem.run_pure]
   congr 1
   rw[J6,QH,yu,yu,Bool.eq_iff_iff]
   simp only[decide_eq_true_eq]
   exact QG hx hy
  ·cases he
 case pointer e=>
  split at he<;>first|(cases he;done)|(simp only[Option.some.injEq]at he;subst he;simp[af])
 case slice e=>
  split at he
  ·cases he;simp[af]
  ·cases hs:BQ y with
   |false=>rw[hs]at he;cases he
   |true=>
    rw[hs]at he;cases he
    obtain⟨a,m,c,hy'⟩:=ZW (σ:=σ) hs
    simp[af,hy']
  ·cases hs:BQ x with
   |false=>rw[hs]at he;cases he
   |true=>
    rw[hs]at he;cases he
    obtain⟨a,m,c,hx'⟩:=ZW (σ:=σ) hs
    simp[af,hx']
  ·cases he
 case map k e=>
  split at he<;>first|(cases he;done)|(simp only[Option.some.injEq]at he;subst he;simp[af])
 case func a b' c=>
  split at he
  ·cases he;simp[af]
  ·cases hs:isFn y with
   |false=>rw[hs]at he;cases he
   |true=>
    rw[hs]at he;cases he
    obtain⟨f,p,q,hy'⟩:=ZX (σ:=σ) hs
    simp[af,hy']
  ·cases hs:isFn x with
   |false=>rw[hs]at he;cases he
   |true=>
    rw[hs]at he;cases he
    obtain⟨f,p,q,hx'⟩:=ZX (σ:=σ) hs
    simp[af,hx']
  ·cases he
 all_goals cases he
end ops
end Go.aY
namespace Go.aY
variable [O:dO]
open Go.RowKit
section ops
variable {E:Env} {P:Program} {B:Nat→Prop} {W0:World} {σ:Sg} {V:Nat→Prop} {h:MH} {w:World} {ev:Ev} {ρ:Operand→Value}
omit O in
theorem amN(f:Field)(fs:List Field)(xs ys:List MV):eqFields E (f::fs) xs ys=(match dG E f.type with
  |some F=>cond (or (xY F) (decide (f.name = "_"))) none (match jd xs f.offset,jd ys f.offset with
   |some x,some y=>match nI F.und x y with
    |some true=>eqFields E fs xs ys
    |some false=>some false
    |none=>none
   |_,_=>none)
  |none=>none):=rfl
theorem amO(hE:bM E P){xs ys:List MV}(hx:wfs σ V xs)(hy:wfs σ V ys)(h1:ones xs=true)(h2:ones ys=true)(n:Nat)(w:World) :
  ∀(fs:List Field) (b:Bool),eqFields E fs xs ys=some b→
   (forIn (m:=Sem) fs ((none,()):Option Bool×Unit) (fun f _=>do
    if f.name≠ "_" then
     if !(←Op.equalIn (n+1) f.type (←part f.type ⟨aH σ xs⟩ f.offset) (←part f.type ⟨aH σ ys⟩ f.offset))then
      pure (ForInStep.done (some false,()))
     else pure (ForInStep.yield (none,()))
    else pure (ForInStep.yield (none,())))).run P w=.ok (if b then(none,())else(some false,())) w:=by
 intro fs
 induction fs with
 |nil=>
   intro b hb;have e:eqFields E [] xs ys=some true:=rfl
   rw[e]at hb;cases hb;rfl
 |cons f fs ih=>
  intro b hb
  rw[amN]at hb
  split at hb
  ·rename_i F hF
   cases hc:(or (xY F) (decide (f.name = "_")))with
   |true=>rw[hc]at hb;cases hb
   |false=>
    rw[hc]at hb
    simp only[cond_false]at hb
    simp only[Bool.or_eq_false_iff,decide_eq_false_iff_not]at hc
    split at hb
    ·rename_i x y hlx hly
     have px:partOf F xs f.offset=some x:=by unfold partOf;rw[hc.1];exact hlx
     have py:partOf F ys f.offset=some y:=by unfold partOf;rw[hc.1];exact hly
     obtain⟨wx,rx⟩:=J4 hE hF hx h1 px w
     obtain⟨wy,ry⟩:=J4 hE hF hy h2 py w
     have hu:=(hE.ty _ F hF).2
     simp only[List.forIn_cons]
     split at hb
     ·rename_i he
      have hq:=J7 (P:=P) (σ:=σ) (V:=V) hu wx wy he n w
      simp only[hc.2,ne_eq,not_false_eq_true,if_true,bind_assoc]
      rw[Sem.bind_ok rx,Sem.bind_ok ry,Sem.bind_ok hq]
      simp only[Bool.not_true,Bool.false_eq_true,if_false,pure_bind]
      exact ih b hb
     ·rename_i he
      have hq:=J7 (P:=P) (σ:=σ) (V:=V) hu wx wy he n w
      cases hb
      simp only[hc.2,ne_eq,not_false_eq_true,if_true,bind_assoc]
      rw[Sem.bind_ok rx,Sem.bind_ok ry,Sem.bind_ok hq]
      simp
     ·cases hb
    ·cases hb
  ·cases hb
theorem amQ(hE:bM E P){t:TypeId}{fs:Array Field}{xs ys:List MV}{b:Bool}(hu:P.underlying t=some (.struct fs))(hs:P.stoodInHeld t=false)
  (hx:wfs σ V xs) (hy:wfs σ V ys) (h1:ones xs=true) (h2:ones ys=true) (he:eqFields E fs.toList xs ys=some b) (w:World) :
  (Op.equal t (.agg ⟨aH σ xs⟩) (.agg ⟨aH σ ys⟩)).run P w=.ok b w:=by
 have key:=amO hE hx hy h1 h2 9998 w fs.toList b he
 unfold Op.equal Op.maxDepth
 unfold Op.equalIn
 rw[Sem.bind_ok (dE hu w)]
 simp only[]
 rw[Sem.bind_ok (show(program).run P w=.ok P w from rfl)]
 simp only[hs,Bool.false_eq_true,if_false]
 rw[←Array.forIn_toList]
 rw[Sem.bind_ok key]
 cases b<;>rfl
omit O in
theorem J8{op:BinOp}{t:TypeId}{x y:Operand}{a b:Value}(ha:a≠.nilIface)(hb:∀c,a≠.agg c)(w:World):(eqGuard op t x y a b).run P w=.ok () w:=by
 unfold eqGuard
 cases a<;>first|exact absurd rfl ha|exact absurd rfl (hb _)|(cases op<;>rfl)
omit O in
theorem amR(op:BinOp)(t:TypeId)(k k':IntKind)(a b:Int):binOp op t (.int k a) (.int k' b)=binOp op 0 (.int k a) (.int k' b):=by cases op<;>rfl
omit O in
theorem amS(op:BinOp)(t:TypeId)(a b:ByteArray):binOp op t (.string a) (.string b)=Op.stringOp op a b:=by cases op<;>rfl
theorem binOp_eql{t:TypeId}{x y:MV}(hp:nU x y=true):binOp .eql t (af σ x) (af σ y)=(do pure (.bool (←Op.equal t (af σ x) (af σ y)))):=by
 cases x<;>cases y<;>first|(simp only[nU,Bool.false_eq_true]at hp;done)|rfl
theorem binOp_neq{t:TypeId}{x y:MV}(hp:nU x y=true):binOp .neq t (af σ x) (af σ y)=(do pure (.bool (!(←Op.equal t (af σ x) (af σ y))))):=by
 cases x<;>cases y<;>first|(simp only[nU,Bool.false_eq_true]at hp;done)|rfl
theorem amT{x y:MV}(hp:nU x y=true):af σ x≠.nilIface∧∀c,af σ x≠.agg c:=by
 cases x<;>first|(constructor<;>simp[af];done)|(exfalso;cases y<;>simp[nU]at hp)
theorem amU(hE:bM E P){op:BinOp}{t:TypeId}{x y:MV}{v:MV}(hx:wf σ V x)(hy:wf σ V y)(ho:Qa E op t x y=some v)(xo yo:Operand)(w:World) :
  wf σ V v∧(do eqGuard op t xo yo (af σ x) (af σ y);binOp op t (af σ x) (af σ y)).run P w=.ok (af σ v) w:=by
 unfold Qa at ho
 split at ho
 ·rename_i k a k' b
  unfold Zu at ho
  obtain⟨h1,h2⟩:=ZU (P:=P) σ V ho w
  refine⟨h1,?_⟩
  rw[Sem.bind_ok (J8 (by simp[af]) (by simp[af]) w)]
  simp only[af]
  rw[amR];exact h2
 ·rename_i a b
  simp only[wf]at hx hy
  obtain⟨h1,h2⟩:=amM (P:=P) (σ:=σ) (V:=V) hx hy ho w
  refine⟨h1,?_⟩
  rw[Sem.bind_ok (J8 (by simp[af]) (by simp[af]) w)]
  simp only[af]
  rw[amS];exact h2
 ·cases hp:nU x y with
  |false=>rw[hp]at ho;cases ho
  |true=>
   rw[hp]at ho
   simp only[cond_true]at ho
   obtain⟨p1,p2⟩:=amT (σ:=σ) hp
   rw[Sem.bind_ok (J8 p1 p2 w)]
   split at ho
   ·rename_i T hT
    have hu:=(hE.ty t T hT).2
    split at ho
    ·split at ho
     ·rename_i b hb
      cases ho
      refine⟨trivial,?_⟩
      rw[binOp_eql hp]
      exact(Sem.bind_ok (J7 (P:=P) hu hx hy hb 9999 w)).trans rfl
     ·cases ho
    ·split at ho
     ·rename_i b hb
      cases ho
      refine⟨trivial,?_⟩
      rw[binOp_neq hp]
      exact(Sem.bind_ok (J7 (P:=P) hu hx hy hb 9999 w)).trans rfl
     ·cases ho
    ·cases ho
   ·cases ho
omit O in
theorem amV{op:BinOp}{t:TypeId}{x y:Operand}{a b:Array Value}(hg:P.eqGuardType P.depth t=false)(w:World):(eqGuard op t x y (.agg a) (.agg b)).run P w=.ok () w:=by
 unfold eqGuard
 cases op<;>first|rfl|(simp[hg])
omit O in
theorem amW{op:BinOp}{t:TypeId}{x y:Operand}(hq:or (isConst x) (isConst y)=true)(w:World):(eqGuard op t x y .nilIface .nilIface).run P w=.ok () w:=by
 unfold eqGuard
 cases x<;>cases y<;>first|(cases hq;done)|(cases op<;>rfl)
omit O in
theorem amX{t:TypeId}{ms:Array (String×TypeId)}(hu:P.underlying t=some (.interface ms))(w:World):(Op.equal t .nilIface .nilIface).run P w=.ok true w:=by
 unfold Op.equal Op.maxDepth
 unfold Op.equalIn
 rw[Sem.bind_ok (dE hu w)]
 rfl
theorem amY(hE:bM E P)(hev:eP σ V ev ρ){op:BinOp}{t:TypeId}{x y:Operand}{v:MV}(ho:Ci E ev op t x y=some (.val v))(w:World) :
  wf σ V v∧(do eqGuard op t x y (ρ x) (ρ y);binOp op t (ρ x) (ρ y)).run P w=.ok (af σ v) w:=by
 unfold Ci at ho
 split at ho
 ·rename_i a b hx hy
  obtain⟨h1,h2⟩:=hev x _ hx
  obtain⟨h3,h4⟩:=hev y _ hy
  simp only[wf]at h1 h3
  rw[h2,h4]
  split at ho
  ·rename_i T hT
   have hu:=(hE.ty t T hT).2
   split at ho
   iterate 2
    ·rename_i fs hd
     rw[hd]at hu
     cases hc:E.cmp t with
     |false=>rw[hc]at ho;cases ho
     |true=>
      rw[hc]at ho
      simp only[cond_true]at ho
      obtain⟨c1,c2⟩:=hE.cmp t hc
      split at ho
      ·rename_i r hr
       cases ho
       refine⟨trivial,?_⟩
       simp only[af]
       rw[Sem.bind_ok (amV c1 w)]
       exact(Sem.bind_ok (amQ hE hu c2 h1.1 h3.1 h1.2 h3.2 hr w)).trans rfl
      ·cases ho
   ·cases ho
  ·cases ho
 ·rename_i hx hy
  rw[(hev x _ hx).2,(hev y _ hy).2]
  cases hq:or (isConst x) (isConst y)with
  |false=>rw[hq]at ho;cases ho
  |true=>
   rw[hq]at ho
   simp only[cond_true]at ho
   simp only[af]
   rw[Sem.bind_ok (amW hq w)]
   split at ho
   ·rename_i T hT
    have hu:=(hE.ty t T hT).2
    split at ho
    iterate 2
     ·rename_i ms hd
      rw[hd]at hu
      cases ho
      exact⟨trivial,(Sem.bind_ok (amX hu w)).trans rfl⟩
    ·cases ho
   ·cases ho
 ·rename_i xv yv hx hy
  obtain⟨h1,h2⟩:=hev x _ hx
  obtain⟨h3,h4⟩:=hev y _ hy
  rw[h2,h4]
  exact amU hE h1 h3 (pK ho) x y w
 ·cases ho
theorem amZ(hE:bM E P)(hev:eP σ V ev ρ){op:BinOp}{t:TypeId}{x y:Operand}{v:MV}(ho:Cj E ev op t x y=some (.val v))(w:World) :
  wf σ V v∧(do eqGuard op t x y (ρ x) (ρ y);binOp op t (ρ x) (ρ y)).run P w=.ok (af σ v) w:=by
 unfold Cj at ho
 split at ho
 ·rename_i u hu
  cases ho
  unfold Qm at hu
  split at hu
  ·rename_i a b hx hy
   obtain⟨h1,h2⟩:=hev x _ hx
   obtain⟨h3,h4⟩:=hev y _ hy
   obtain⟨k1,k2,k3⟩:=hE.bo op t a b _ hu σ V h1 h3
   refine⟨k1,?_⟩
   rw[h2,h4,Sem.bind_ok (J8 k2.1 k2.2 w)]
   exact k3 w
  ·cases hu
 ·exact amY hE hev ho w
theorem am0(hev:eP σ V ev ρ){op:UnOp}{x:Operand}{v:MV}(ho:Cm ev op x=some (.val v))(w:World) :
  wf σ V v∧(Op.unary op (ρ x)).run P w=.ok (af σ v) w:=by
 unfold Cm at ho
 split at ho
 ·rename_i b hx
  rw[(hev x _ hx).2]
  split at ho
  ·cases ho;exact⟨trivial,rfl⟩
  ·cases ho
 ·rename_i k n hx
  rw[(hev x _ hx).2]
  exact ZU σ V (pK ho) w
 ·cases ho
theorem am1(hev:eP σ V ev ρ){c a b:Operand}{v:MV}(ho:BZ ev c a b=some (.val v))(w:World) :
  wf σ V v∧(do pure (.value (if ←asBool (ρ c)then ρ a else ρ b)):Sem Next).run P w=.ok (.value (af σ v)) w:=by
 unfold BZ at ho
 split at ho
 ·rename_i t hc
  rw[(hev c _ hc).2]
  simp only[af,asBool,pure_bind,Sem.run_pure]
  cases t with
  |true=>obtain⟨h1,h2⟩:=hev a v (pK ho);exact⟨h1,by simp[h2]⟩
  |false=>obtain⟨h1,h2⟩:=hev b v (pK ho);exact⟨h1,by simp[h2]⟩
 ·cases ho
theorem am2(hev:eP σ V ev ρ){o:Oper}{x:Operand}{v:MV}(hop:o.op=.nilCheck x)(ho:Cf ev x=some (.val v))(w:World) :
  wf σ V v∧(execOp ρ o).run P w=.ok (.value (af σ v)) w:=by
 unfold Cf at ho
 unfold execOp
 simp only[hop]
 split at ho
 iterate 4
  ·rename_i hx;obtain⟨h1,h2⟩:=hev x _ hx;cases ho;exact⟨h1,by rw[h2];rfl⟩
 ·cases ho
theorem am3(hev:eP σ V ev ρ){fn:Fn}{first captured:Array Operand}{v:MV}(ho:CB ev fn first captured=some (.val v))(w:World) :
  wf σ V v∧(Instr.makeFunc fn (first.map ρ) (captured.map ρ)).run P w=.ok (af σ v) w:=by
 unfold CB at ho
 split at ho
 ·rename_i f a b ha hb
  cases ho
  obtain⟨h1,h2⟩:=QE hev _ _ ha
  obtain⟨h3,h4⟩:=QE hev _ _ hb
  refine⟨by simp only[wf];exact⟨h1,h3⟩,?_⟩
  unfold Instr.makeFunc
  simp only[Sem.run_pure,af,←h2,←h4]
  congr 3<;>(rw[←Array.toList_inj];simp)
 ·cases ho
theorem am4(hev:eP σ V ev ρ){t:Operand}{i:Nat}{v:MV}(ho:CU ev t i=some (.val v))(w:World) :
  wf σ V v∧(Instr.extract (ρ t) i).run P w=.ok (af σ v) w:=by
 unfold CU at ho
 split at ho
 ·rename_i vs ht
  obtain⟨h1,h2⟩:=hev t _ ht
  simp only[wf]at h1
  have hl:=pK ho
  rw[yh]at hl
  refine⟨(je _).1 h1 v (List.mem_of_getElem? hl),?_⟩
  rw[h2]
  have:(⟨aH σ vs⟩:Array Value)[i]?=some (af σ v):=by rw[dZ];simp[hl]
  simp only[af,Instr.extract,this,Sem.run_pure]
 ·cases ho
theorem am5(hE:bM E P)(hev:eP σ V ev ρ){t:TypeId}{x i:Operand}{v:MV}(ho:CP E ev t x i=some (.val v))(w:World) :
  wf σ V v∧(Instr.index t (ρ x) (ρ i)).run P w=.ok (af σ v) w:=by
 unfold CP at ho
 split at ho
 ·rename_i T xv n hT hx hn
  obtain⟨k,hk⟩:=J5 hev hn
  obtain⟨h1,h2⟩:=hev x _ hx
  obtain⟨hi,hu⟩:=hE.ty t T hT
  unfold Instr.index
  rw[hk]
  simp only[asIntOf,pure_bind]
  rw[Sem.bind_ok (dE hu w),h2]
  split at ho
  ·rename_i m e cs hd
   simp only[wf]at h1
   split at ho
   ·rename_i Te hTe
    cases hb:Nat.blt n m with
    |false=>rw[hb]at ho;cases ho
    |true=>
     rw[hb]at ho
     simp only[cond_true]at ho
     have hlt:(0:Int)≤Int.ofNat n∧Int.ofNat n<(m:Int):=⟨Int.natCast_nonneg n,by simpa[Nat.blt_eq]using hb⟩
     have:=J4 hE hTe h1.1 h1.2 (pK ho) w
     refine⟨this.1,?_⟩
     simp only[hd,af,hlt,and_self,if_true]
     rw[Sem.bind_ok (wH (hE.ty e Te hTe).1 w)]
     exact this.2
   ·cases ho
  ·rename_i s hd
   simp only[wf]at h1
   split at ho
   ·rename_i b hb
    cases ho
    rw[yh]at hb
    have hlt:n<s.length:=(List.getElem?_eq_some_iff.1 hb).1
    have hb256:=h1 b (List.mem_of_getElem? hb)
    refine⟨trivial,?_⟩
    have hsz:n<(bytesV s).size:=by rw[wI];exact hlt
    have hget:(bytesV s)[n]?=some (UInt8.ofNat b):=by
     rw[getElem?_pos (bytesV s) n hsz]
     congr 1
     have:(bytesV s)[n]=(s.map UInt8.ofNat)[n]'(by simpa using hlt):=by simp[bytesV,ByteArray.getElem_eq_getElem_data]
     rw[this,List.getElem_map]
     congr 1
     rw[List.getElem?_eq_getElem hlt]at hb
     exact Option.some.inj hb
    simp only[hd,af,Int.ofNat_eq_natCast,Int.toNat_natCast,hget]
    congr 2
    simp
    omega
   ·cases ho
  ·cases ho
 ·cases ho
end ops
end Go.aY
namespace Go.aY
variable [O:dO]
open Go.RowKit
omit O in
theorem sS{a b:Nat}(h:Nat.blt a b=true):a<b:=Nat.le_of_ble_eq_true h
omit O in
theorem FZ{a b:Nat}(h:a<b):Nat.blt a b=true:=Nat.ble_eq_true_of_le h
omit O in
theorem jX{a b:Bool}(h:and a b=true):a=true∧b=true:=by simpa using h
section ops
variable {E:Env} {P:Program} {B:Nat→Prop} {W0:World} {σ:Sg} {V:Nat→Prop} {h:MH} {w:World} {ev:Ev} {ρ:Operand→Value}
theorem J9(hev:eP σ V ev ρ){o:Option Operand}{r:Option Nat}(ho:qE ev o=some r) :
  (o=none∧r=none)∨∃k n,o.map ρ=some (.int k (.ofNat n))∧r=some n:=by
 unfold qE at ho
 split at ho
 ·cases ho;exact .inl ⟨rfl,rfl⟩
 ·rename_i x
  split at ho
  ·rename_i v hv
   split at ho
   ·rename_i n hn
    cases ho
    obtain⟨k,rfl⟩:=ZT hn
    exact .inr ⟨k,n,by simp[(hev x _ hv).2,af],rfl⟩
   ·cases ho
  ·cases ho
omit O in
theorem am6{k:IntKind}{n y:Nat}{c:BoundsCode}(hn:n≤y)(w:World):(Instr.sliceBound (.int k (.ofNat n)) y c).run P w=.ok n w:=by
 unfold Instr.sliceBound
 simp only[asIntOf,pure_bind]
 rw[if_pos ⟨Int.natCast_nonneg n,by simpa using hn⟩]
 rfl
theorem zY(hev:eP σ V ev ρ){lo hi mx:Option Operand}{lo' hi' mx':Option Nat}(h1:qE ev lo=some lo')(h2:qE ev hi=some hi')(h3:qE ev mx=some mx')
  (hnm:∀m,mx'=some m→hi'≠none) (isS:Bool) {len cap:Nat} (c1:od lo' 0≤od hi' len) (c2:od hi' len≤od mx' cap) (c3:od mx' cap≤cap) (w:World) :
  (Instr.sliceBounds isS len cap (lo.map ρ) (hi.map ρ) (mx.map ρ)).run P w=.ok (od lo' 0,od hi' len,od mx' cap) w:=by
 unfold Instr.sliceBounds
 rcases J9 hev h3 with⟨rfl,rfl⟩|⟨km,nm,em,rfl⟩<;>rcases J9 hev h2 with⟨rfl,rfl⟩|⟨kh,nh,eh,rfl⟩<;>
  rcases J9 hev h1 with⟨rfl,rfl⟩|⟨kl,nl,el,rfl⟩
 all_goals first|exact absurd rfl (hnm _ rfl)|skip
 all_goals
  simp only[od]at c1 c2 c3 ⊢
  simp only[*,Option.map_none,pure_bind]
  repeat rw[Sem.bind_ok (am6 (by omega) w)]
  try rfl
omit O in
theorem QI{m l x y:Nat}{a b:Addr}{w:World}:(Result.ok (Value.slice (if m=l then some a else some b) x y) w)=.ok (.slice (some (if m=l then a else b)) x y) w:=by split<;>rfl
theorem QJ{id off cap es lo hi mx:Nat}{v:MV}(hv:V id)(ho:BR id off cap es lo hi mx=some (.val v)) :
  lo≤hi∧hi≤mx∧mx≤cap∧wf σ V v∧af σ v=.slice (some (if mx=lo then⟨(σ id).blk,(σ id).off+off,none⟩else⟨(σ id).blk,(σ id).off+off+lo*es,none⟩)) (hi-lo) (mx-lo):=by
 unfold BR at ho
 cases hc:(and (Nat.ble lo hi) (and (Nat.ble hi mx) (Nat.ble mx cap)))with
 |false=>rw[hc]at ho;cases ho
 |true=>
  rw[hc]at ho
  simp only[cond_true,Option.some.injEq,MR.val.injEq]at ho
  subst ho
  obtain⟨c1,c2⟩:=jX hc
  obtain⟨c2,c3⟩:=jX c2
  have c1:=Nat.le_of_ble_eq_true c1
  have c2:=Nat.le_of_ble_eq_true c2
  have c3:=Nat.le_of_ble_eq_true c3
  refine⟨c1,c2,c3,?_,?_⟩
  ·simp only[wf];exact⟨hv,by show hi-lo≤mx-lo;omega⟩
  ·simp only[af]
   by_cases e:mx=lo
   ·subst e;simp
   ·have:Nat.beq mx lo=false:=by cases hb:Nat.beq mx lo;rfl;exact absurd (Nat.eq_of_beq_eq_true hb) e
    rw[this,if_neg e]
    simp[Nat.add_assoc]
theorem am7{id off l len es lo hi:Nat}{v:MV}(hv:V id)(hl:l+len≤(σ id).cap)(ho:JI id off l len es lo hi=some (.val v)) :
  lo≤hi∧hi≤len∧wf σ V v∧
   af σ v=.slice (some (if(σ id).cap-l=lo then⟨(σ id).blk,(σ id).off+off,none⟩else⟨(σ id).blk,(σ id).off+off+lo*es,none⟩)) (hi-lo) ((σ id).cap-l-lo):=by
 unfold JI at ho
 cases hc:(and (Nat.ble lo hi) (Nat.ble hi len))with
 |false=>rw[hc]at ho;cases ho
 |true=>
  rw[hc]at ho
  simp only[cond_true,Option.some.injEq,MR.val.injEq]at ho
  subst ho
  obtain⟨c1,c2⟩:=jX hc
  have c1:=Nat.le_of_ble_eq_true c1
  have c2:=Nat.le_of_ble_eq_true c2
  refine⟨c1,c2,?_⟩
  cases hd:(or (Nat.blt lo hi) (Nat.beq lo 0))with
  |true=>
   simp only[cond_true]
   refine⟨by simp only[wf];exact⟨hv,by show l+lo+(hi-lo)≤_;omega⟩,?_⟩
   simp only[af,Nat.add_eq,Nat.mul_eq,Nat.sub_eq]
   by_cases e:(σ id).cap-l=lo
   ·rw[if_pos e]
    have h0:lo=0:=by
     rcases Bool.or_eq_true_iff.1 hd with h|h
     ·have:=sS h;omega
     ·exact Nat.eq_of_beq_eq_true h
    subst h0
    simp
   ·rw[if_neg e,Nat.add_assoc,Nat.sub_sub]
  |false=>
   simp only[cond_false]
   have hne:¬lo<hi:=fun h=>by
    have:Nat.blt lo hi=true:=FZ h
    rw[this]at hd;cases hd
   refine⟨by simp only[wf];exact⟨hv,by show l+lo≤_;omega⟩,?_⟩
   have e0:hi-lo=0:=by omega
   simp only[af,Nat.add_eq,Nat.mul_eq,e0]
   by_cases e:(σ id).cap-l=lo
   ·rw[if_pos e,if_pos (by omega),Nat.sub_sub]
   ·rw[if_neg e,if_neg (by omega),Nat.add_assoc,Nat.sub_sub]
theorem am8(hE:bM E P)(hev:eP σ V ev ρ){t:TypeId}{x:Operand}{lo hi mx:Option Operand}{v:MV}(ho:CE E ev t x lo hi mx=some (.val v))(w:World) :
  wf σ V v∧(Instr.sliceAt t (ρ x) (lo.map ρ) (hi.map ρ) (mx.map ρ)).run P w=.ok (af σ v) w:=by
 unfold CE at ho
 split at ho
 ·rename_i xv lo' hi' mx' hx hlo hhi hmx
  obtain⟨g1,g2⟩:=hev x _ hx
  split at ho
  ·cases ho
  ·rename_i am9
   have hnm:∀m,mx'=some m→hi'≠none:=fun m hm hn=>am9 m hn hm
   unfold Qc at ho
   split at ho
   ·cases ho
   ·rename_i T hT
    obtain⟨hi0,hu⟩:=hE.ty t T hT
    unfold Instr.sliceAt
    rw[Sem.bind_ok (dE hu w),g2]
    split at ho
    ·
     rename_i s hd
     rw[hd]at hu
     simp only[wf]at g1
     split at ho
     ·cases ho
     ·cases hc:(and (Nat.ble (od lo' 0) (od hi' (eH s 0))) (Nat.ble (od hi' (eH s 0)) (eH s 0)))with
      |false=>rw[hc]at ho;cases ho
      |true=>
       rw[hc]at ho
       simp only[cond_true]at ho
       obtain⟨c1,c2⟩:=jX hc
       have c1:=Nat.le_of_ble_eq_true c1
       have c2:=Nat.le_of_ble_eq_true c2
       split at ho
       ·rename_i r hr
        cases ho
        obtain⟨hn,rfl⟩:=C9 hr
        rw[Qw]
        refine⟨by simp only[wf];exact fun b hb=>g1 b (List.mem_of_mem_drop (List.mem_of_mem_take hb)),?_⟩
        have ana:mx.map ρ=none:=by rcases J9 hev hmx with⟨rfl,-⟩|⟨k,n,e,e'⟩;rfl;cases e'
        rw[lH]at c1 c2
        rw[lH]
        simp only[Nat.add_zero]at c1 c2 ⊢
        have hbd:=zY (P:=P) hev hlo hhi (show qE ev (none:Option Operand)=some none from rfl) (fun m hm=>by cases hm) false (len:=s.length) (cap:=s.length) c1 (show od hi' s.length≤od none s.length from c2) (Nat.le_refl _) w
        simp only[hd,af]
        unfold Instr.slice
        rw[Sem.bind_ok (dE hu w)]
        simp only[ana,Option.isSome_none,Bool.false_eq_true,if_false,wI]
        simp only[Option.map_none]at hbd
        rw[Sem.bind_ok hbd]
        simp only[Sem.run_pure]
        congr 2
        apply ByteArray.ext
        simp[bytesV,List.map_take,List.map_drop,List.extract_eq_take_drop]
       ·cases ho
    ·
     rename_i e id off len cap hd
     rw[hd]at hu
     simp only[wf]at g1
     split at ho
     ·rename_i es hes
      obtain⟨c1,c2,c3,c4,c5⟩:=QJ (σ:=σ) (V:=V) g1.1 ho
      refine⟨c4,?_⟩
      simp only[hd,af]
      unfold Instr.slice
      rw[Sem.bind_ok (dE hu w)]
      simp only[]
      rw[Sem.bind_ok (zY hev hlo hhi hmx hnm true c1 c2 c3 w),Sem.bind_ok (sQ hE hes w),c5]
      simp only[Sem.run_pure,Option.map_some,Addr.add_lit]
      exact QI
     ·cases ho
    ·
     rename_i e id off l len hd
     rw[hd]at hu
     simp only[wf]at g1
     split at ho
     ·rename_i es hes
      split at ho
      ·rename_i m
       obtain⟨c1,c2,c3,c4,c5⟩:=QJ (σ:=σ) (V:=V) g1.1 ho
       refine⟨c4,?_⟩
       simp only[hd,af]
       unfold Instr.slice
       rw[Sem.bind_ok (dE hu w)]
       simp only[]
       have c3':od (some m) ((σ id).cap-l)≤(σ id).cap-l:=by show m≤_;omega
       rw[Sem.bind_ok (zY hev hlo hhi hmx hnm true c1 (show od hi' len≤od (some m) ((σ id).cap-l) from c2) c3' w),Sem.bind_ok (sQ hE hes w),c5]
       simp only[Sem.run_pure,Option.map_some,Addr.add_lit]
       exact QI
      ·obtain⟨c1,c2,c4,c5⟩:=am7 (σ:=σ) (V:=V) g1.1 g1.2 ho
       refine⟨c4,?_⟩
       simp only[hd,af]
       unfold Instr.slice
       rw[Sem.bind_ok (dE hu w)]
       simp only[]
       rw[Sem.bind_ok (zY hev hlo hhi hmx hnm true c1 (show od hi' len≤od none ((σ id).cap-l) by show _≤(σ id).cap-l;omega) (Nat.le_refl _) w),Sem.bind_ok (sQ hE hes w),c5]
       simp only[Sem.run_pure,Option.map_some,Addr.add_lit]
       exact QI
     ·cases ho
    ·
     rename_i e hd
     rw[hd]at hu
     split at ho
     ·rename_i es hes
      cases hc:(and (Nat.beq (od lo' 0) 0) (and (Nat.beq (od hi' 0) 0) (Nat.beq (od mx' 0) 0)))with
      |false=>rw[hc]at ho;cases ho
      |true=>
       rw[hc]at ho
       simp only[cond_true,Option.some.injEq,MR.val.injEq]at ho
       subst ho
       obtain⟨c1,c2⟩:=jX hc
       obtain⟨c2,c3⟩:=jX c2
       have c1:=Nat.eq_of_beq_eq_true c1
       have c2:=Nat.eq_of_beq_eq_true c2
       have c3:=Nat.eq_of_beq_eq_true c3
       refine⟨trivial,?_⟩
       simp only[hd,af]
       unfold Instr.slice
       rw[Sem.bind_ok (dE hu w)]
       simp only[]
       rw[Sem.bind_ok (zY hev hlo hhi hmx hnm true (by omega) (by omega) (by omega) w),Sem.bind_ok (sQ hE hes w)]
       simp only[c1,c2,c3,Sem.run_pure]
       rfl
     ·cases ho
    ·
     rename_i e id a b l hd
     rw[hd]at hu
     simp only[wf]at g1
     split at ho
     ·rename_i es hes
      cases hc:(and (Nat.beq (od lo' 0) 0) (Nat.beq (od hi' 0) 0))with
      |false=>rw[hc]at ho;cases ho
      |true=>
       rw[hc]at ho
       simp only[cond_true,Option.some.injEq,MR.val.injEq]at ho
       subst ho
       obtain⟨c1,c2⟩:=jX hc
       have c1:=Nat.eq_of_beq_eq_true c1
       have c2:=Nat.eq_of_beq_eq_true c2
       refine⟨by simp only[wf];exact g1,?_⟩
       simp only[hd,af]
       unfold Instr.slice
       rw[Sem.bind_ok (dE hu w)]
       simp only[]
       rw[Sem.bind_ok (zY hev hlo hhi hmx hnm true (by omega) (show od hi' 0≤od none ((σ id).cap-l) by omega) (Nat.le_refl _) w),Sem.bind_ok (sQ hE hes w)]
       simp only[c1,c2,Sem.run_pure,Option.map_some,Addr.add_lit,Nat.zero_mul,Nat.add_zero,ite_self]
       rfl
     ·cases ho
    ·
     rename_i n e id off hd
     rw[hd]at hu
     simp only[wf]at g1
     split at ho
     ·rename_i es hes
      obtain⟨c1,c2,c3,c4,c5⟩:=QJ (σ:=σ) (V:=V) g1 ho
      refine⟨c4,?_⟩
      simp only[hd,af,Instr.sureAddr,pure_bind]
      rw[Sem.bind_ok (zY hev hlo hhi hmx hnm false c1 c2 c3 w),Sem.bind_ok (sQ hE hes w),c5]
      simp only[Sem.run_pure,Addr.add_lit]
     ·cases ho
    ·cases ho
 ·cases ho
end ops
end Go.aY
namespace Go.aY
variable [O:dO]
open Go.RowKit
section ops
variable {E:Env} {P:Program} {B:Nat→Prop} {W0:World} {σ:Sg} {V:Nat→Prop} {h:MH} {w:World} {ev:Ev} {ρ:Operand→Value}
omit O in
theorem QL{T:MT}(hb:isByte T=true):T.und=.int .u8:=by
 unfold isByte at hb
 split at hb
 ·assumption
 ·cases hb
omit O in
theorem anb(v:MV)(l:List MV):bytesOf (v::l)=(match v with
  | .int .u8 (.ofNat n)=>cond (Nat.blt n 256) (match bytesOf l with|some r=>some (n::r)|none=>none) none
  |_=>none):=rfl
omit O in
theorem anc:∀(l:List MV) (s:List Nat),bytesOf l=some s→(∀b∈s,b<256)∧l=s.map (fun n=>.int .u8 (.ofNat n)):=by
 intro l
 induction l with
 |nil=>
   intro s hs;have e:bytesOf []=some []:=rfl
   rw[e]at hs;cases hs;simp
 |cons v l ih=>
  intro s hs
  rw[anb]at hs
  split at hs
  ·rename_i n
   cases hb:Nat.blt n 256 with
   |false=>rw[hb]at hs;cases hs
   |true=>
    rw[hb]at hs
    simp only[cond_true]at hs
    split at hs
    ·rename_i r hr
     cases hs
     obtain⟨h1,h2⟩:=ih r hr
     refine⟨fun b hb'=>?_,by simp[h2]⟩
     rcases List.mem_cons.1 hb' with rfl|hb'
     ·exact sS hb
     ·exact h1 b hb'
    ·cases hs
  ·cases hs
theorem ane(σ:Sg)(w:World):∀(s acc:List Nat),
  (forIn (m:=Sem) (s.map (fun n=>af σ (.int .u8 (.ofNat n)))) (bytesV acc) (fun c r=>do
   let .int .u8 n:=c|stuck "bytesToString: byte expected"
   pure (ForInStep.yield (r.push (UInt8.ofNat n.toNat))))).run P w=.ok (bytesV (acc++s)) w:=by
 intro s
 induction s with
 |nil=>intro acc;simp
 |cons n s ih=>
  intro acc
  have:=ih (acc++[n])
  simp only[List.map_cons,List.forIn_cons,af,pure_bind]
  simp only[af]at this
  have e:(bytesV acc).push (UInt8.ofNat (Int.ofNat n).toNat)=bytesV (acc++[n]):=by
   apply ByteArray.ext;simp[bytesV]
  rw[e,this]
  simp
theorem anf(R:Rel E.G B W0 σ V h w){x:MV}{c:List MV}{s:List Nat}(hx:wf σ V x)(hc:oH 1 h x=some c)(hs:bytesOf c=some s) :
  (∀b∈s,b<256)∧(Conv.bytesToString (af σ x)).run P w=.ok (.string (bytesV s)) w:=by
 obtain⟨h1,h2⟩:=anc c s hs
 refine⟨h1,?_⟩
 have key:∀{id off len:Nat},V id→sH h id off (Nat.mul len 1)=some c→∀cap,
   (Conv.bytesToString (.slice (some ⟨(σ id).blk,(σ id).off+off,none⟩) len cap)).run P w=.ok (.string (bytesV s)) w:=by
  intro id off len hv hr cap
  obtain⟨-,-,hlen,hcell⟩:=yl R hv hr
  have hl:=FY (P:=P) hcell
  unfold Conv.bytesToString
  rw[show len=c.length by rw[hlen];simp]
  simp only[]
  rw[Sem.bind_ok hl,←Array.forIn_toList]
  have e:aH σ c=s.map (fun n=>af σ (.int .u8 (.ofNat n))):=by rw[dZ,h2];simp
  have:=ane (P:=P) σ w s []
  simp only[List.nil_append]at this
  simp only[e]
  exact(Sem.bind_ok this).trans rfl
 have nil:c=[]→(Conv.bytesToString (.slice none 0 0)).run P w=.ok (.string (bytesV s)) w:=by
  rintro rfl
  have e:bytesOf []=some []:=rfl
  rw[e]at hs;cases hs
  rfl
 cases x<;>simp only[oH]at hc<;>first|(cases hc;done)|skip
 ·exact nil (Option.some.inj hc).symm
 ·rename_i id off len cap;simp only[wf]at hx;exact key hx.1 hc _
 ·rename_i id off l len;simp only[wf]at hx;exact key hx.1 hc _
 ·rename_i id a b l
  cases hc
  have e:bytesOf []=some []:=rfl
  rw[e]at hs;cases hs
  rfl
theorem ang{n:Nat}{x:MV}{c:List MV}(hc:oH n h x=some c):∃a m cp,af σ x=.slice a m cp:=by
 cases x<;>simp only[oH]at hc<;>first|(cases hc;done)|exact⟨_,_,_,rfl⟩
omit O in
theorem Dj{x:MV}{r:MR}(ho:JH E h x=some r):∃id off len cap cs t es o,x=.sl id off len cap∧h.get id=some (.cells cs t es o)∧E.G.ro≤id∧r=.upd x (h.set id (.cells cs t es o)):=by
 unfold JH at ho
 split at ho
 ·rename_i id off len cap
  split at ho
  ·rename_i cs t es o hg
   cases hr:Nat.ble E.G.ro id with
   |false=>rw[hr]at ho;cases ho
   |true=>
    rw[hr]at ho
    cases ho
    exact⟨id,off,len,cap,cs,t,es,o,rfl,hg,Nat.le_of_ble_eq_true hr,rfl⟩
  ·cases ho
 ·cases ho
theorem anh(hE:bM E P)(R:Rel E.G B W0 σ V h w)(hev:eP σ V ev ρ){s d:TypeId}{x:Operand}{v:MV}(ho:zO E ev s d x h=some (.val v)) :
  wf σ V v∧(convert s d (ρ x)).run P w=.ok (af σ v) w:=by
 unfold zO at ho
 split at ho
 ·rename_i xv hx
  obtain⟨g1,g2⟩:=hev x _ hx
  rw[g2]
  split at ho
  ·rename_i u hu
   cases ho
   obtain⟨k1,k2⟩:=hE.co s d xv _ hu σ V g1
   exact⟨k1,k2 w⟩
  rename_i hu
  clear hu
  unfold Qb at ho
  split at ho
  ·rename_i S D hS hD
   have uS:=(hE.ty s S hS).2
   have uD:=(hE.ty d D hD).2
   unfold convert
   rw[Sem.bind_ok (dE uS w),Sem.bind_ok (dE uD w)]
   split at ho
   ·rename_i k k' n hd
    split at ho
    ·rename_i k2 hs
     cases ho
     refine⟨trivial,?_⟩
     simp only[hd,hs,af]
     rfl
    ·cases ho
   ·rename_i b hd
    split at ho
    ·rename_i hs
     cases ho
     refine⟨g1,?_⟩
     simp only[hd,hs,af]
     rfl
    ·cases ho
   ·split at ho
    ·rename_i T hS' hT
     cases hb:isByte T with
     |false=>rw[hb]at ho;cases ho
     |true=>rw[hb]at ho;cases ho
    ·cases ho
   ·rename_i hni hns hd
    split at ho
    ·rename_i e hs
     split at ho
     ·rename_i T hT
      cases hb:isByte T with
      |false=>rw[hb]at ho;cases ho
      |true=>
       rw[hb]at ho
       simp only[cond_true]at ho
       split at ho
       ·rename_i c hc
        split at ho
        ·rename_i b hbo
         cases ho
         obtain⟨h1,h2⟩:=anf (P:=P) R g1 hc hbo
         refine⟨by simp only[wf];exact h1,?_⟩
         have ue:=(hE.ty e T hT).2
         rw[QL hb]at ue
         simp only[hns,hs]
         obtain⟨a,n,cp,hx'⟩:=ang (σ:=σ) hc
         rw[hx']at h2 ⊢
         simp only[]
         rw[Sem.bind_ok (dE ue w)]
         exact h2
        ·cases ho
       ·cases ho
     ·cases ho
    ·cases ho
   ·split at ho
    ·rename_i T hs hT
     cases hb:and (Nat.beq s d) (isByte T)with
     |false=>rw[hb]at ho;cases ho
     |true=>
      rw[hb]at ho
      obtain⟨id,off,len,cap,cs,t,es,o,-,-,-,e⟩:=Dj ho
      cases e
    ·cases ho
   ·cases ho
  ·cases ho
 ·cases ho
omit O in
theorem QM(K:TypeDesc)(k:MV)(e:ME)(l:List ME)(i:Nat):qF K k (e::l) i=(match nI K k e.key with
  |some true=>some (some (i,e))
  |some false=>qF K k l (Nat.succ i)
  |none=>none):=rfl
theorem ZY{K:TypeDesc}{x y:MV}{b:Bool}(hK:oI K=true)(hx:wf σ V x)(hy:wf σ V y)(he:nI K x y=some b):Instr.sameNow K (af σ x) (af σ y)=some b:=by
 unfold nI at he
 cases K<;>simp only[oI,Bool.false_eq_true]at hK<;>simp only at he
 case bool=>
  split at he
  ·cases he;rfl
  ·cases he
 case int k0=>
  split at he
  ·rename_i k a k' b'
   by_cases hk:k=k'
   ·subst hk
    simp only[decide_true,cond_true,Option.some.injEq]at he
    subst he
    simp only[af,Instr.sameNow,if_true]
    rfl
   ·simp[hk]at he
  ·cases he
 case string=>
  split at he
  ·rename_i a b'
   simp only[Option.some.injEq]at he
   subst he
   simp only[wf]at hx hy
   simp only[af,Instr.sameNow]
   congr 1
   rw[J6,QH,yu,yu,Bool.eq_iff_iff]
   simp only[decide_eq_true_eq]
   exact QG hx hy
  ·cases he
theorem Ko{K:TypeDesc}{k:MV}(hK:oI K=true)(hk:wf σ V k):∀(l:List ME) (i:Nat) (r:Option (Nat×ME)),(∀e∈l,Di σ V e)→qF K k l i=some r→
  Instr.findNow K (af σ k) (l.map (eF σ)) i=some (r.map fun p=>(p.1,af σ p.2.val))∧∀j e,r=some (j,e)→i≤j∧l[j-i]?=some e:=by
 intro l
 induction l with
 |nil=>
   intro i r _ h;have e:qF K k [] i=some none:=rfl
   rw[e]at h;cases h;exact⟨rfl,fun _ _ h=>by cases h⟩
 |cons e l ih=>
  intro i r hl h
  rw[QM]at h
  have he:=hl e (by simp)
  split at h
  ·rename_i hq
   cases h
   refine⟨?_,fun j e' h=>by cases h;simp⟩
   simp only[List.map_cons,Instr.findNow,eF,ZY hK hk he.1 hq,Option.map_some]
  ·rename_i hq
   obtain⟨h1,h2⟩:=ih (i+1) r (fun x hx=>hl x (by simp[hx])) h
   refine⟨?_,fun j e' hj=>?_⟩
   ·simp only[List.map_cons,Instr.findNow,eF,ZY hK hk he.1 hq]
    exact h1
   ·obtain⟨h3,h4⟩:=h2 j e' hj
    refine⟨by omega,?_⟩
    rw[show j-i=(j-(i+1))+1 by omega]
    simpa using h4
  ·cases h
omit O in
theorem Dk{kt:TypeId}{K:TypeDesc}{v:Value}(hu:P.underlying kt=some K)(hK:oI K=true)(em:Bool)(w:World):(Instr.checkKey em 10000 kt v).run P w=.ok () w:=by
 unfold Instr.checkKey
 rw[Sem.bind_ok (dE hu w)]
 cases K<;>simp only[oI,Bool.false_eq_true]at hK<;>rfl
theorem Kq(hE:bM E P){t:TypeId}{K:TypeDesc}{el:TypeId}(hk:BV E t=some (K,el)):∃kt,P.underlying t=some (.map kt el)∧P.underlying kt=some K∧oI K=true:=by
 unfold BV at hk
 split at hk
 ·rename_i T hT
  split at hk
  ·rename_i kt el' hd
   split at hk
   ·rename_i KT hKT
    cases hc:oI KT.und with
    |false=>rw[hc]at hk;cases hk
    |true=>
     rw[hc]at hk
     simp only[cond_true,Option.some.injEq,Prod.mk.injEq]at hk
     obtain⟨rfl,rfl⟩:=hk
     exact⟨kt,by rw[←hd];exact(hE.ty t T hT).2,(hE.ty kt KT hKT).2,hc⟩
   ·cases hk
  ·cases hk
 ·cases hk
theorem Dl{kt:TypeId}{K:TypeDesc}{k:MV}{l:List ME}{r:Option (Nat×ME)}(hu:P.underlying kt=some K)(hK:oI K=true)(hk:wf σ V k)(hl:∀e∈l,Di σ V e)
  (hf:qF K k l 0=some r) (w:World):(Instr.findKey kt (af σ k) (l.map (eF σ))).run P w=.ok (r.map fun p=>(p.1,af σ p.2.val)) w:=by
 unfold Instr.findKey
 rw[Sem.bind_ok (dE hu w),(Ko hK hk l 0 r hl hf).1]
 rfl
theorem ZZ(hE:bM E P){t:TypeId}{T:MT}{z:MV}(hT:E.ty.get t=some T)(hz:zeroV T=some z):(∀w,(zeroValue t).run P w=.ok (af σ z) w)∧wf σ V z∧ones z.cells=true∧z.cells.length=T.info.size:=by
 unfold zeroV at hz
 split at hz
 ·rename_i u hu
  split at hz
  ·rename_i m hm
   cases hc:and (ones m.cells) (Nat.beq (eH m.cells 0) T.info.size)with
   |false=>rw[hc]at hz;cases hz
   |true=>
    rw[hc]at hz
    simp only[cond_true,Option.some.injEq]at hz
    subst hz
    obtain⟨h1,h2⟩:=FU σ V u m hm
    obtain⟨c1,c2⟩:=jX hc
    have c2:=Nat.eq_of_beq_eq_true c2
    rw[lH]at c2
    exact⟨fun w=>by rw[h1];exact amE (hE.ty t T hT).1 hu w,h2,c1,c2⟩
  ·cases hz
 ·cases hz
theorem Z4(R:Rel E.G B W0 σ V h w){m:MV}{es:List ME}{c:Nat}(hm:wf σ V m)(ho:mapOf h m=some (es,c)) :
  (∀e∈es,Di σ V e)∧((m=.bK∧es=[])∨∃id,m=.mp id∧V id∧h.get id=some (.map es c)∧w.heap[(σ id).blk]?=some (.map ⟨es.map (eF σ)⟩ c)):=by
 unfold mapOf at ho
 split at ho
 ·cases ho;exact⟨by simp,.inl ⟨rfl,rfl⟩⟩
 ·rename_i id
  split at ho
  ·rename_i es' c' hg
   cases ho
   simp only[wf]at hm
   obtain⟨h1,h2⟩:=R.blk id _ hm hg
   exact⟨h2,.inr ⟨id,rfl,hm,hg,h1⟩⟩
  ·cases ho
 ·cases ho
theorem Z5{ok b:Bool}{v:MV}(hv:wf σ V v):wf σ V (found ok v b)∧af σ (found ok v b)=(if ok then .tuple #[af σ v,.bool b]else af σ v):=by
 unfold found
 cases ok with
 |true=>exact⟨by simp only[cond_true,wf,wfs];exact⟨hv,trivial,trivial⟩,rfl⟩
 |false=>exact⟨hv,rfl⟩
omit O in
theorem wJ{r:Nat}{es:Array MapEntry}{c:Nat}(hb:w.heap[r]?=some (.map es c)):(getObj r).run P w=.ok (.map es c) w:=by
 simp[getObj,Sem.run,hb]
theorem ank(hE:bM E P)(R:Rel E.G B W0 σ V h w)(hev:eP σ V ev ρ){t:TypeId}{m k:Operand}{ok:Bool}{v:MV}(ho:CQ E ev t m k ok h=some (.val v)) :
  wf σ V v∧(Instr.lookup t (ρ m) (ρ k) ok).run P w=.ok (af σ v) w:=by
 unfold CQ at ho
 split at ho
 ·rename_i mv kv hm hk
  obtain⟨m1,m2⟩:=hev m _ hm
  obtain⟨k1,k2⟩:=hev k _ hk
  rw[m2,k2]
  unfold Qd at ho
  split at ho
  ·rename_i K el es c hkd hmo
   obtain⟨kt,u1,u2,hK⟩:=Kq hE hkd
   obtain⟨hes,hmm⟩:=Z4 R m1 hmo
   unfold Instr.lookup
   rw[Sem.bind_ok (dE u1 w)]
   simp only[]
   split at ho
   ·rename_i i e hf
    cases ho
    have hfk:=Dl (P:=P) u2 hK k1 hes hf w
    obtain⟨-,h4⟩:=Ko hK k1 es 0 _ hes hf
    obtain⟨-,h5⟩:=h4 _ _ rfl
    obtain⟨w1,w2⟩:=Z5 (σ:=σ) (V:=V) (ok:=ok) (b:=true) (hes e (List.mem_of_getElem? h5)).2
    refine⟨w1,?_⟩
    rcases hmm with⟨rfl,rfl⟩|⟨id,rfl,hv,hg,hw⟩
    ·simp at h5
    ·simp only[af]
     rw[Sem.bind_ok (wJ hw)]
     simp only[pure_bind]
     refine(Sem.bind_ok (Dk u2 hK _ w)).trans ?_
     refine(Sem.bind_ok hfk).trans ?_
     rw[w2];rfl
   ·rename_i hf
    split at ho
    ·rename_i Te hTe
     split at ho
     ·rename_i z hz
      cases ho
      have hfk:=Dl (P:=P) u2 hK k1 hes hf w
      obtain⟨z1,z2,-,-⟩:=ZZ (σ:=σ) (V:=V) hE hTe hz
      obtain⟨w1,w2⟩:=Z5 (σ:=σ) (V:=V) (ok:=ok) (b:=false) z2
      refine⟨w1,?_⟩
      rcases hmm with⟨rfl,rfl⟩|⟨id,rfl,hv,hg,hw⟩
      simp only[af,pure_bind]
      rotate_left
      simp only[af]
      rw[Sem.bind_ok (wJ hw)]
      simp only[pure_bind]
      rotate_left
      all_goals
       refine(Sem.bind_ok (Dk u2 hK _ w)).trans ?_
       refine(Sem.bind_ok hfk).trans ?_
       simp only[Option.map_none]
       rw[Sem.bind_ok (z1 w),w2];rfl
     ·cases ho
    ·cases ho
   ·cases ho
  ·cases ho
 ·cases ho
end ops
end Go.aY
namespace Go.aY
variable [O:dO]
open Go.RowKit
omit O in
theorem anl{α:Type}(off:Nat):∀(vs:List α) (k:Nat) (cs:Array α),off+k+vs.length≤cs.size→
  (vs.zipIdx k).foldl (fun cs p=>cs.setIfInBounds (off+p.2) p.1) cs=⟨jW (off+k) vs cs.toList⟩:=by
 intro vs
 induction vs with
 |nil=>
  intro k cs h
  simp only[List.zipIdx_nil,List.foldl_nil]
  apply Array.toList_inj.1
  apply List.ext_getElem?
  intro i
  rw[(oK (off+k) [] cs.toList (by simpa using h)).2 i,if_neg (by simp)]
 |cons v vs ih=>
  intro k cs h
  simp only[List.length_cons]at h
  simp only[List.zipIdx_cons,List.foldl_cons]
  rw[ih (k+1) _ (by simp;omega)]
  congr 1
  apply List.ext_getElem?
  intro i
  have h1:=oK (off+(k+1)) vs (cs.setIfInBounds (off+k) v).toList (by simp;omega)
  have h2:=oK (off+k) (v::vs) cs.toList (by simp;omega)
  rw[h1.2,h2.2]
  simp only[List.length_cons,Array.toList_setIfInBounds,List.getElem?_set]
  by_cases e:i=off+k
  ·subst e
   rw[if_neg (by omega),if_pos rfl,if_pos (by simp;omega),if_pos (by omega)]
   simp
  ·by_cases e2:off+(k+1)≤i∧i<off+(k+1)+vs.length
   ·rw[if_pos e2,if_pos (by omega),show i-(off+k)=(i-(off+(k+1)))+1 by omega]
    simp
   ·rw[if_neg e2,if_neg (by omega),if_neg (by omega)]
omit O in
theorem anm{α:Type}[Inhabited α](z:List α)(n:Nat):((Array.range (n*z.length)).map fun i=>(⟨z⟩:Array α)[i % (⟨z⟩:Array α).size]!)=⟨(List.replicate n z).flatten⟩:=by
 apply Array.toList_inj.1
 apply List.ext_getElem?
 intro i
 have hsz:(List.replicate n z).flatten.length=n*z.length:=by simp
 simp only[Array.toList_map,Array.toList_range,List.getElem?_map]
 by_cases hi:i<n*z.length
 ·rw[List.getElem?_range hi]
  simp only[Option.map_some]
  have hz:0<z.length:=by
   rcases Nat.eq_zero_or_pos z.length with h|h
   ·rw[h]at hi;simp at hi
   ·exact h
  have hm:i % z.length<z.length:=Nat.mod_lt _ hz
  have key:∀(n i:Nat),i<n*z.length→(List.replicate n z).flatten[i]?=z[i % z.length]?:=by
   intro n
   induction n with
   |zero=>intro i h;simp at h
   |succ n ih=>
    intro i h
    simp only[List.replicate_succ,List.flatten_cons]
    by_cases hlt:i<z.length
    ·rw[List.getElem?_append_left hlt,Nat.mod_eq_of_lt hlt]
    ·rw[List.getElem?_append_right (by omega),ih _ (by rw[Nat.succ_mul]at h;omega)]
     congr 1
     rw[Nat.mod_eq_sub_mod (show i≥z.length by omega)]
  rw[key n i hi]
  simp only[List.size_toArray]
  rw[getElem!_pos (⟨z⟩:Array α) (i % z.length) hm]
  simp[List.getElem?_eq_getElem hm]
 ·rw[List.getElem?_eq_none (by simpa using hi),List.getElem?_eq_none (by rw[hsz];omega)]
  rfl
section ops
variable {E:Env} {P:Program} {B:Nat→Prop} {W0:World} {σ:Sg} {V:Nat→Prop} {h:MH} {w:World} {ev:Ev} {ρ:Operand→Value}
theorem zZ(hE:bM E P){t:TypeId}{T:MT}{z:List MV}(hT:E.ty.get t=some T)(hz:uO T=some z) :
  ∃m,(∀w,(zeroValue t).run P w=.ok (af σ m) w)∧(af σ m).cells=⟨aH σ z⟩∧wfs σ V z∧ones z=true∧z.length=T.info.size:=by
 unfold uO at hz
 split at hz
 ·rename_i m hm
  cases hz
  obtain⟨h1,h2,h3,h4⟩:=ZZ (σ:=σ) (V:=V) hE hT hm
  exact⟨m,h1,FQ σ m,J3 h2,h3,h4⟩
 ·cases hz
omit O in
theorem QN(place:Nat→Option (Nat×Nat))(p:Nat×Operand)(ps:List (Nat×Operand))(cells:List MV):nH place ev (p::ps) cells =
  (match place p.1,ev p.2 with
  |some (off,size),some v=>
   cond (and (ones v.cells) (and (Nat.beq (eH v.cells 0) size) (Nat.ble (Nat.add off size) (eH cells 0)))) (nH place ev ps (jW off v.cells cells)) none
  |_,_=>none):=rfl
theorem Z7{off:Nat}{vs cs:List MV}(hl:off+vs.length≤cs.length)(h1:wfs σ V vs)(h2:ones vs=true)(h3:wfs σ V cs)(h4:ones cs=true) :
  wfs σ V (jW off vs cs)∧ones (jW off vs cs)=true∧aH σ (jW off vs cs)=jW off (aH σ vs) (aH σ cs):=by
 have hg:=oK off vs cs hl
 have hmem:∀v∈jW off vs cs,v∈vs∨v∈cs:=by
  intro v hv
  obtain⟨i,hi⟩:=List.mem_iff_getElem?.1 hv
  rw[hg.2]at hi
  split at hi
  ·exact .inl (List.mem_of_getElem? hi)
  ·exact .inr (List.mem_of_getElem? hi)
 refine⟨(je _).2 fun v hv=>?_,(jO _).2 fun v hv=>?_,?_⟩
 ·rcases hmem v hv with hv|hv
  ·exact(je _).1 h1 v hv
  ·exact(je _).1 h3 v hv
 ·rcases hmem v hv with hv|hv
  ·exact(jO _).1 h2 v hv
  ·exact(jO _).1 h4 v hv
 ·apply List.ext_getElem?
  intro i
  rw[(oK off (aH σ vs) (aH σ cs) (by rw[dZ,dZ];simpa using hl)).2]
  rw[dZ,dZ,dZ,List.getElem?_map,hg.2]
  simp only[List.length_map]
  split<;>simp
theorem QO(hev:eP σ V ev ρ)(place:Nat→Option (Nat×Nat)):∀(ps:List (Nat×Operand)) (cells r:List MV),wfs σ V cells→ones cells=true→nH place ev ps cells=some r→
  wfs σ V r∧ones r=true∧Instr.fill place ⟨aH σ cells⟩ (ps.map fun p=>(p.1,ρ p.2))=some ⟨aH σ r⟩:=by
 intro ps
 induction ps with
 |nil=>
   intro cells r h1 h2 h;have e:nH place ev [] cells=some cells:=rfl
   rw[e]at h;cases h;exact⟨h1,h2,rfl⟩
 |cons p ps ih=>
  intro cells r h1 h2 h
  rw[QN]at h
  split at h
  ·rename_i off size v hp hv
   cases hc:(and (ones v.cells) (and (Nat.beq (eH v.cells 0) size) (Nat.ble (Nat.add off size) (eH cells 0))))with
   |false=>rw[hc]at h;cases h
   |true=>
    rw[hc]at h
    simp only[cond_true]at h
    obtain⟨c1,c2⟩:=jX hc
    obtain⟨c2,c3⟩:=jX c2
    have c2:=Nat.eq_of_beq_eq_true c2
    have c3:=Nat.le_of_ble_eq_true c3
    rw[lH]at c2 c3
    simp only[Nat.add_zero,Nat.add_eq]at c2 c3
    obtain⟨v1,v2⟩:=hev p.2 v hv
    obtain⟨g1,g2,g3⟩:=Z7 (σ:=σ) (V:=V) (off:=off) (vs:=v.cells) (cs:=cells) (by omega) (J3 v1) c1 h1 h2
    obtain⟨r1,r2,r3⟩:=ih _ r g1 g2 h
    refine⟨r1,r2,?_⟩
    simp only[List.map_cons,Instr.fill,hp,v2,FQ]
    have l1:(aH σ v.cells).length=size:=by rw[dZ];simp[c2]
    have l2:(aH σ cells).length=cells.length:=by rw[dZ];simp
    have hif:¬((⟨aH σ v.cells⟩:Array Value).size≠size∨off+(⟨aH σ v.cells⟩:Array Value).size > (⟨aH σ cells⟩:Array Value).size):=by
     simp only[List.size_toArray,l1,l2];omega
    have hz:(⟨aH σ v.cells⟩:Array Value).zipIdx.foldl (fun(cs:Array Value) (p:Value×Nat)=>cs.setIfInBounds (off+p.2) p.1) (⟨aH σ cells⟩:Array Value)=(⟨jW off (aH σ v.cells) (aH σ cells)⟩:Array Value):=by
     have:=anl off (aH σ v.cells) 0 (⟨aH σ cells⟩:Array Value) (by simp only[List.size_toArray,l1,l2];omega)
     simp only[Nat.add_zero]at this
     rw[←this,←Array.foldl_toList]
     simp
    rw[←g3]at hz
    rw[if_neg (by simpa using hif)]
    exact(congrArg (fun x=>Instr.fill place x _) hz).trans r3
  ·cases h
theorem ann(hE:bM E P):∀(fs:List Field) (ps:List (Nat×Nat)),FI E fs=some ps→∀w,(fs.mapM (m:=Sem) fun f=>do pure (f.offset,←sizeOf f.type)).run P w=.ok ps w:=by
 intro fs
 induction fs with
 |nil=>
   intro ps h w;have e:FI E []=some []:=rfl
   rw[e]at h;cases h;rfl
 |cons f fs ih=>
  intro ps h w
  have e:FI E (f::fs)=(match pI E f.type,FI E fs with|some n,some l=>some ((f.offset,n)::l)|_,_=>none):=rfl
  rw[e]at h
  split at h
  ·rename_i n l hn hl
   cases h
   rw[List.mapM_cons,bind_assoc,Sem.bind_ok (sQ hE hn w)]
   simp only[pure_bind]
   rw[Sem.bind_ok (ih l hl w)]
   rfl
  ·cases h
omit O in
theorem Z8{o:Option (List MV)}{v:MV}(ho:Cb o=some (.val v)):∃c,o=some c∧v=.agg c:=by
 unfold Cb at ho
 split at ho
 ·cases ho;exact⟨_,rfl,rfl⟩
 ·cases ho
theorem ano(hE:bM E P)(hev:eP σ V ev ρ){t:TypeId}{parts:Array (Nat×Operand)}{v:MV}(ho:Cc E ev t parts=some (.val v))(w:World) :
  wf σ V v∧(Instr.build t (parts.map fun(i,x)=>(i,ρ x))).run P w=.ok (af σ v) w:=by
 unfold Cc at ho
 split at ho
 ·cases ho
 ·rename_i T hT
  have hu:=(hE.ty t T hT).2
  have hpm:(parts.map fun(i,x)=>(i,ρ x)).toList=parts.toList.map fun p=>(p.1,ρ p.2):=by simp
  unfold Instr.build
  split at ho
  ·rename_i z fs hz hd
   rw[hd]at hu
   obtain⟨m,m1,m2,m3,m4,-⟩:=zZ (σ:=σ) (V:=V) hE hT hz
   split at ho
   ·rename_i ps hps
    obtain⟨c,hc,rfl⟩:=Z8 ho
    obtain⟨r1,r2,r3⟩:=QO hev _ _ _ _ m3 m4 hc
    refine⟨by simp only[wf];exact⟨r1,r2⟩,?_⟩
    rw[Sem.bind_ok (m1 w),Sem.bind_ok (dE hu w)]
    simp only[m2,hpm]
    have hmm:(fs.mapM (m:=Sem) fun f=>do pure (f.offset,←sizeOf f.type)).run P w=.ok ⟨ps⟩ w:=by
     rw[Array.mapM_eq_mapM_toList,←bind_pure_comp]
     exact(Sem.bind_ok (ann hE _ _ hps w)).trans rfl
    rw[Sem.bind_ok hmm]
    have hpl:(fun x=>(⟨ps⟩:Array (Nat×Nat))[x]?)=jd ps:=by funext i;rw[yh];simp
    rw[hpl,r3]
    rfl
   ·cases ho
  ·rename_i z n e hz hd
   rw[hd]at hu
   obtain⟨m,m1,m2,m3,m4,-⟩:=zZ (σ:=σ) (V:=V) hE hT hz
   split at ho
   ·rename_i es hes
    obtain⟨c,hc,rfl⟩:=Z8 ho
    obtain⟨r1,r2,r3⟩:=QO hev _ _ _ _ m3 m4 hc
    refine⟨by simp only[wf];exact⟨r1,r2⟩,?_⟩
    rw[Sem.bind_ok (m1 w),Sem.bind_ok (dE hu w)]
    simp only[m2,hpm]
    rw[Sem.bind_ok (sQ hE hes w)]
    have hpl:(fun i=>some (i*es,es))=JS es:=by funext i;rfl
    rw[hpl,r3]
    rfl
   ·cases ho
  ·cases ho
end ops
end Go.aY
namespace Go.aY
variable [O:dO]
open Go.RowKit
section ops
variable {E:Env} {P:Program} {B:Nat→Prop} {W0:World} {σ:Sg} {V:Nat→Prop} {h:MH} {w:World} {ev:Ev} {ρ:Operand→Value}
theorem Kr(hev:eP σ V ev ρ){args:Array Operand}{vs:List MV}(h:evs ev args.toList=some vs):wfs σ V vs∧args.map ρ=⟨aH σ vs⟩:=by
 obtain⟨h1,h2⟩:=QE hev _ _ h
 exact⟨h1,by rw[←Array.toList_inj];simp[h2]⟩
theorem anp(hE:bM E P)(R:Rel E.G B W0 σ V h w){t:TypeId}{ats:Array TypeId}{ty:TypeId}{x v:MV}(h0:ats[0]?=some t)(hx:wf σ V x)(ho:FC E t x h=some (.val v)) :
  wf σ V v∧(Builtin.len_ ats ty ⟨[af σ x]⟩).run P w=.ok (af σ v) w:=by
 unfold FC at ho
 split at ho
 ·rename_i T hT
  have hu:=(hE.ty t T hT).2
  unfold Builtin.len_
  simp only[h0]
  rw[show((⟨[af σ x]⟩:Array Value)[0]?:Option Value)=some (af σ x) from rfl]
  simp only[]
  rw[Sem.bind_ok (dE hu w)]
  split at ho
  ·rename_i n e hd
   cases ho
   exact⟨trivial,by simp only[hd];rfl⟩
  ·rename_i a hd
   split at ho
   ·rename_i Ta hTa
    have hua:=(hE.ty a Ta hTa).2
    split at ho
    ·rename_i n e hda
     cases ho
     refine⟨trivial,?_⟩
     simp only[hd]
     rw[Sem.bind_ok (dE hua w)]
     simp only[hda]
     rfl
    ·cases ho
   ·cases ho
  ·rename_i hd
   split at ho
   ·rename_i s
    cases ho
    refine⟨trivial,?_⟩
    simp only[hd,af,wI,lH]
    rfl
   ·cases ho
  ·rename_i e hd
   split at ho
   ·cases ho
   ·cases ho
   ·cases ho
   ·rename_i h1 h2 h3
    split at ho
    ·rename_i n hn
     cases ho
     refine⟨trivial,?_⟩
     have:∃a c,af σ x=.slice a n c:=by
      cases x<;>simp only[pG]at hn<;>first|(cases hn;done)|(cases hn;exact⟨_,_,rfl⟩)|exact absurd rfl (h1 _)|exact absurd rfl h2|exact absurd rfl (h3 _)
     obtain⟨a,c,hx'⟩:=this
     simp only[hd,hx']
     rfl
    ·cases ho
  ·rename_i kt el hd
   split at ho
   ·rename_i es c hm
    cases ho
    refine⟨trivial,?_⟩
    obtain⟨-,hmm⟩:=Z4 R hx hm
    rcases hmm with⟨rfl,rfl⟩|⟨id,rfl,hv,hg,hw⟩
    ·simp only[hd,af];rfl
    ·simp only[hd,af]
     rw[Sem.bind_ok (wJ hw)]
     simp[goInt,lH]
   ·cases ho
  ·cases ho
 ·cases ho
theorem ant(hE:bM E P){t:TypeId}{ats:Array TypeId}{ty:TypeId}{x v:MV}(h0:ats[0]?=some t)(ho:FD E t x=some (.val v))(w:World) :
  wf σ V v∧(Builtin.cap_ ats ty ⟨[af σ x]⟩).run P w=.ok (af σ v) w:=by
 unfold FD at ho
 split at ho
 ·rename_i T hT
  have hu:=(hE.ty t T hT).2
  unfold Builtin.cap_
  simp only[h0]
  rw[show((⟨[af σ x]⟩:Array Value)[0]?:Option Value)=some (af σ x) from rfl]
  simp only[]
  rw[Sem.bind_ok (dE hu w)]
  split at ho
  ·rename_i e id off len c hd
   cases ho
   exact⟨trivial,by simp only[hd,af];rfl⟩
  ·rename_i e hd
   cases ho
   exact⟨trivial,by simp only[hd,af];rfl⟩
  ·cases ho
 ·cases ho
theorem anu{ats:Array TypeId}{ty:TypeId}{x y v:MV}(ho:Qe x y=some v)(w:World):wf σ V v∧(Builtin.min_ ats ty ⟨[af σ x,af σ y]⟩).run P w=.ok (af σ v) w:=by
 unfold Qe at ho
 split at ho
 ·cases ho
  refine⟨trivial,?_⟩
  simp[Builtin.min_,Builtin.min2,af]
 ·cases ho
theorem anv{ats:Array TypeId}{ty:TypeId}{x y v:MV}(ho:Qg x y=some v)(w:World):wf σ V v∧(Builtin.max_ ats ty ⟨[af σ x,af σ y]⟩).run P w=.ok (af σ v) w:=by
 unfold Qg at ho
 split at ho
 ·cases ho
  refine⟨trivial,?_⟩
  simp[Builtin.max_,Builtin.max2,af]
 ·cases ho
omit O in
theorem fM{s:Sem Value}{v:Value}{w w':World}(h:s.run P w=.ok v w'):(do pure (.value (←s)):Sem Next).run P w=.ok (.value v) w':=by
 rw[Sem.bind_ok h];rfl
omit O in
theorem QQ{s:Sem Unit}{w w':World}(h:s.run P w=.ok () w'):(do s;pure .skip:Sem Next).run P w=.ok .skip w':=by
 rw[Sem.bind_ok h];rfl
omit O in
theorem yw{α:Type}(a:Array α)(n:Nat):jd a.toList n=a[n]?:=by rw[yh];simp
omit O in
theorem Aa{o:Option (MV×MH)}{v:MV}(ho:mr o=some (.val v)):False:=by
 unfold mr at ho;split at ho<;>cases ho
omit O in
theorem F5{o:Option (gz×MB)}{v:MV}(ho:nJ o=some (.val v)):False:=by
 unfold nJ at ho;split at ho<;>cases ho
omit O in
theorem yx{a b:List MV}:wfs σ V (a++b)↔wfs σ V a∧wfs σ V b:=by
 rw[je,je,je]
 constructor
 ·exact fun h=>⟨fun v hv=>h v (List.mem_append.2 (.inl hv)),fun v hv=>h v (List.mem_append.2 (.inr hv))⟩
 ·rintro⟨h1,h2⟩ v hv
  rcases List.mem_append.1 hv with hv|hv
  ·exact h1 v hv
  ·exact h2 v hv
theorem anw(hE:bM E P)(R:Rel E.G B W0 σ V h w)(hev:eP σ V ev ρ){c:Call}{v:MV}(o:Oper)(hop:o.op=.call c)(ho:wE E ev c h=some (.val v)) :
  wf σ V v∧(execOp ρ o).run P w=.ok (.value (af σ v)) w:=by
 unfold wE at ho
 split at ho
 ·cases ho
 ·rename_i args hargs
  obtain⟨a1,a2⟩:=Kr hev hargs
  unfold execOp
  simp only[hop]
  split at ho
  ·rename_i b hb
   have hres:(resolve ρ c o.type).run P w=.ok {target:=.builtin b c.argTypes o.type (c.args.map fun | .const _=>true|_=>false),args:=⟨aH σ args⟩} w:=by
    unfold resolve;simp only[hb,a2];rfl
   rw[Sem.bind_ok hres]
   unfold Qh at ho
   split at ho
   ·rename_i x
    have hx:wf σ V x:=by simp only[wfs]at a1;exact a1.1
    split at ho
    ·rename_i t ht
     rw[yw]at ht
     obtain⟨r1,r2⟩:=anp (ty:=o.type) hE R ht hx ho
     exact⟨r1,fM r2⟩
    ·rename_i t ht
     rw[yw]at ht
     obtain⟨r1,r2⟩:=ant (σ:=σ) (V:=V) (ty:=o.type) hE ht ho w
     exact⟨r1,fM r2⟩
    ·cases ho
   ·rename_i x y
    split at ho
    iterate 2
     ·exact(Aa ho).elim
    ·split at ho
     ·exact(Aa ho).elim
     ·cases ho
    ·obtain⟨r1,r2⟩:=anu (P:=P) (σ:=σ) (V:=V) (ats:=c.argTypes) (ty:=o.type) (pK ho) w
     exact⟨r1,fM r2⟩
    ·obtain⟨r1,r2⟩:=anv (P:=P) (σ:=σ) (V:=V) (ats:=c.argTypes) (ty:=o.type) (pK ho) w
     exact⟨r1,fM r2⟩
    ·cases ho
   ·cases ho
  ·rename_i fo hfo
   split at ho
   ·rename_i f hf
    obtain⟨f1,f2⟩:=hev fo f hf
    unfold Qj at ho
    split at ho
    ·rename_i g a b
     unfold Qi at ho
     split at ho
     ·rename_i k hk
      simp only[wf]at f1
      have hw:wfs σ V (a++args++b):=yx.2 ⟨yx.2 ⟨f1.1,a1⟩,f1.2⟩
      obtain⟨r1,r2⟩:=hE.ext g k hk σ V _ v ho hw
      refine⟨r1,?_⟩
      have hres:(resolve ρ c o.type).run P w=.ok {target:=.fn (.func g) ⟨aH σ b⟩,args:=⟨aH σ a⟩++⟨aH σ args⟩} w:=by
       unfold resolve;simp only[hfo,a2,f2,af,Deferred.ofValue];rfl
      rw[Sem.bind_ok hres]
      unfold invoke
      simp only[]
      have:=r2 w
      rw[dZ,List.map_append,List.map_append,←dZ,←dZ,←dZ]at this
      simpa using this
     ·cases ho
    ·cases ho
    ·cases ho
   ·cases ho
  ·cases ho
omit O in
theorem Z9(s:Nat)(e:ME)(l:List ME):FB s (e::l)=Bool.rec (FB s l) (some e) (Nat.beq e.born s):=rfl
theorem anx(σ:Sg)(s:Nat):∀l:List ME,(l.map (eF σ)).find? (fun e=>e.born == s)=(FB s l).map (eF σ):=by
 intro l
 induction l with
 |nil=>rfl
 |cons e l ih=>
  rw[Z9,List.map_cons,List.find?_cons]
  have:((eF σ e).born == s)=Nat.beq e.born s:=by simp only[eF];rw[Bool.eq_iff_iff,beq_iff_eq,Nat.beq_eq]
  rw[this]
  cases Nat.beq e.born s with
  |true=>rfl
  |false=>exact ih
omit O in
theorem anz{s:Nat}{e:ME}:∀{l:List ME},FB s l=some e→e∈l:=by
 intro l
 induction l with
 |nil=>intro h;cases h
 |cons a l ih=>
  intro h
  rw[Z9]at h
  cases hb:Nat.beq a.born s with
  |true=>rw[hb]at h;cases h;exact List.mem_cons_self ..
  |false=>rw[hb]at h;exact List.mem_cons_of_mem _ (ih h)
omit O in
theorem anA(n:Nat)(l:List Nat):JQ (n::l)=Option.rec (some n) (fun m=>some m) (JQ l):=rfl
omit O in
theorem anB:∀l:List Nat,JQ l=l.getLast?:=by
 intro l
 induction l with
 |nil=>rfl
 |cons n l ih=>
  rw[anA,ih,List.getLast?_cons]
  cases l.getLast?<;>rfl
omit O in
theorem anC{P:Program}{w:World}{r:Nat}{m:Option Nat}{s c:Nat}{seen:Array Nat}(hb:w.heap[r]?=some (.mapIter m s seen c)):(getObj r).run P w=.ok (.mapIter m s seen c) w:=by
 simp[getObj,Sem.run,hb]
theorem anD(R:Rel E.G B W0 σ V h w)(hev:eP σ V ev ρ){it:Operand}{v:MV}(ho:JX ev it h=some v) :
  wf σ V v∧(Instr.entry (ρ it)).run P w=.ok (af σ v) w:=by
 unfold JX at ho
 split at ho
 ·rename_i iv hi
  obtain⟨x1,x2⟩:=hev it _ hi
  unfold Zz at ho
  split at ho
  ·rename_i r
   simp only[wf]at x1
   split at ho
   ·rename_i m since seen stepped hg
    split at ho
    ·rename_i es clock hm
     obtain⟨b1,b2,b3⟩:=R.blk r _ x1 hg
     simp only[Option.map_some]at b1
     obtain⟨m1,m2⟩:=R.blk m _ (b3 m rfl) hm
     cases hq:Nat.beq clock stepped with
     |false=>rw[hq]at ho;cases ho
     |true=>
      rw[hq]at ho
      simp only[cond_true]at ho
      have hq:clock=stepped:=Nat.eq_of_beq_eq_true hq
      subst hq
      split at ho
      ·rename_i s hs
       split at ho
       ·rename_i e he
        cases ho
        have hme:=m2 e (anz he)
        refine⟨by simp only[wf,wfs];exact⟨hme.1,hme.2,trivial⟩,?_⟩
        rw[x2]
        unfold Instr.entry
        simp only[af,b2]
        rw[Sem.bind_ok (anC b1)]
        simp only[]
        have hback:(⟨seen⟩:Array Nat).back?=some s:=by rw[anB]at hs;rw[←hs];simp[Array.back?,List.getLast?_eq_getElem?]
        simp only[hback]
        rw[Sem.bind_ok (wJ m1)]
        have hfind:(⟨es.map (eF σ)⟩:Array MapEntry).find? (fun x=>x.born == s)=some (eF σ e):=by
         have:=anx σ s es
         rw[he]at this
         simpa using this
        simp only[hfind]
        simp[eF,aH]
       ·cases ho
      ·cases ho
    ·cases ho
   ·cases ho
  ·cases ho
 ·cases ho
theorem look_ok(hE:bM E P)(R:Rel E.G B W0 σ V h w)(hev:eP σ V ev ρ)(o:Oper){v:MV}(ho:eY E ev o.op h=some (.val v)) :
  wf σ V v∧(execOp ρ o).run P w=.ok (.value (af σ v)) w:=by
 cases hop:o.op<;>rw[hop]at ho<;>simp only[eY]at ho<;>first|(cases ho;done)|skip
 case call c=>exact anw hE R hev o hop ho
 case nilCheck x=>exact am2 hev hop ho w
 all_goals unfold execOp;simp only[hop]
 case move x=>obtain⟨h1,h2⟩:=hev x v (pK ho);exact⟨h1,by rw[h2];rfl⟩
 case assign x=>obtain⟨h1,h2⟩:=hev x v (pK ho);exact⟨h1,by rw[h2];rfl⟩
 case pick c a b=>exact am1 hev ho w
 case build t parts=>obtain⟨h1,h2⟩:=ano hE hev ho w;exact⟨h1,fM h2⟩
 case load t x=>obtain⟨h1,h2⟩:=amF hE R hev ho;exact⟨h1,fM h2⟩
 case binOp op t x y yt=>obtain⟨h1,h2⟩:=amZ hE hev ho w;exact⟨h1,fM h2⟩
 case unOp op t x=>obtain⟨h1,h2⟩:=am0 (P:=P) hev ho w;exact⟨h1,fM h2⟩
 case convert s d x=>obtain⟨h1,h2⟩:=anh hE R hev ho;exact⟨h1,fM h2⟩
 case makeFunc fn first captured=>obtain⟨h1,h2⟩:=am3 (P:=P) hev ho w;exact⟨h1,fM h2⟩
 case slice t x lo hi mx=>obtain⟨h1,h2⟩:=am8 hE hev ho w;exact⟨h1,fM h2⟩
 case fieldAddr t x f=>obtain⟨h1,h2⟩:=amI hE hev ho w;exact⟨h1,fM h2⟩
 case field t x f=>obtain⟨h1,h2⟩:=amG hE hev ho w;exact⟨h1,fM h2⟩
 case indexAddr t x i=>obtain⟨h1,h2⟩:=amJ hE hev ho w;exact⟨h1,fM h2⟩
 case index t x i=>obtain⟨h1,h2⟩:=am5 hE hev ho w;exact⟨h1,fM h2⟩
 case lookup t m k ok=>obtain⟨h1,h2⟩:=ank hE R hev ho;exact⟨h1,fM h2⟩
 case extract t i=>obtain⟨h1,h2⟩:=am4 (P:=P) hev ho w;exact⟨h1,fM h2⟩
 case entry it=>obtain⟨h1,h2⟩:=anD R hev (pK ho);exact⟨h1,fM h2⟩
 case alloc=>exact(F5 ho).elim
 case box=>exact(F5 ho).elim
 case buildSlice=>exact(F5 ho).elim
 case makeMap=>exact(F5 ho).elim
 case makeSlice=>exact(F5 ho).elim
 case store=>exact(Aa ho).elim
 case mapUpdate=>exact(Aa ho).elim
 case insert=>exact(Aa ho).elim
 case range=>exact(Aa ho).elim
 case next=>exact(Aa ho).elim
end ops
end Go.aY
