/- A part of the proof. -/
import Derived.WalkKit
namespace Go.aI
inductive Tr(α:Type) where
 |nil
 |node (l:Tr α) (a:Option α) (r:Tr α)
inductive kC where
 |e
 |l (p:kC)
 |r (p:kC)
 deriving DecidableEq
noncomputable def xg(n:Nat):Nat→kC:=
 Nat.rec (fun _=>.e) (fun _ ih k=>Bool.rec (Bool.rec (.r (ih (Nat.div (Nat.sub k 1) 2))) (.l (ih (Nat.div (Nat.sub k 1) 2))) (Nat.beq (Nat.mod k 2) 1)) .e (Nat.beq k 0)) n
noncomputable def yQ(k:Nat):kC:=xg (Nat.succ k) k
namespace Tr
variable {α:Type}
noncomputable def gP(p:kC):Tr α→Option α:=
 kC.rec (fun t=>Tr.rec none (fun _ a _ _ _=>a) t) (fun _ ih t=>Tr.rec none (fun l _ _ _ _=>ih l) t) (fun _ ih t=>Tr.rec none (fun _ _ r _ _=>ih r) t) p
noncomputable def sP(p:kC)(v:α):Tr α→Tr α:=
 kC.rec (fun t=>Tr.rec (.node .nil (some v) .nil) (fun l _ r _ _=>.node l (some v) r) t)
  (fun _ ih t=>Tr.rec (.node (ih .nil) none .nil) (fun l a r _ _=>.node (ih l) a r) t)
  (fun _ ih t=>Tr.rec (.node .nil none (ih .nil)) (fun l a r _ _=>.node l a (ih r)) t) p
noncomputable def get(t:Tr α)(k:Nat):Option α:=gP (yQ k) t
noncomputable def put(t:Tr α)(k:Nat)(v:α):Tr α:=sP (yQ k) v t
end Tr
inductive MV where
 |bool (b:Bool)
 |int (k:IntKind) (n:Int)
 |str (s:List Nat)
 |dB
 |ptr (id off:Nat)
 |bC
 |sl (id off len cap:Nat)
 |bQ (id off l len:Nat)
 |sle (id am3 am4 l:Nat)
 |bV
 |mp (id:Nat)
 |fn (f:FuncId) (first captured:List MV)
 |dh (id:Nat)
 |di
 |dR
 |opq (id:Nat)
 |agg (cs:List MV)
 |bY (vs:List MV)
structure ME where
 key:MV
 val:MV
 born:Nat
structure ML where
 state:LoopState
 pending:Option Code
 tmps:Tr MV
 nt:Nat
 params:List Nat
 assign:Code
 body:Code
 defers:Nat
inductive MB where
 |cells (cs:List MV) (elem:TypeId) (es:Nat) (opn:Bool)
 |map (es:List ME) (clock:Nat)
 |iter (m:Option Nat) (since:Nat) (seen:List Nat) (stepped:Nat)
 |loop (l:ML)
 |pU
 |dead
structure MH where
 hp:Tr MB
 nx:Nat
structure MT where
 und:TypeDesc
 info:TypeInfo
inductive KL where
 |UA
structure GB where
 ro:Nat
 g0:Nat
structure Env where
 ty:Tr MT
 fns:Tr Func
 ext:FuncId→Option KL
 cmp:TypeId→Bool
 G:GB
 jP:FuncId→List MV→MH→Option (MV×MH)
 bo:BinOp→TypeId→MV→MV→Option MV
 co:TypeId→TypeId→MV→Option MV
def MV.cells:MV→List MV
 | .agg cs=>cs
 |v=>[v]
def one:MV→Bool
 | .agg _=>false
 | .bY _=>false
 |_=>true
def ones:List MV→Bool
 | []=>true
 |v::vs=>and (one v) (ones vs)
mutual
def jk:Value→Option MV
 | .bool b=>some (.bool b)
 | .int k n=>some (.int k n)
 | .string s=>some (.str (s.toList.map UInt8.toNat))
 | .pointer none=>some .dB
 | .slice none 0 0=>some .bC
 | .map none=>some .bV
 | .nilFunc=>some .di
 | .nilIface=>some .dR
 | .agg ⟨cs⟩=>match sN cs with|some l=>cond (ones l) (some (.agg l)) none|none=>none
 | .tuple ⟨vs⟩=>match sN vs with|some l=>some (.bY l)|none=>none
 |_=>none
def sN:List Value→Option (List MV)
 | []=>some []
 |v::vs=>match jk v,sN vs with|some v,some vs=>some (v::vs)|_,_=>none
end
def jL:MV:=.bY []
structure MA where
 tmps:Tr MV
 nt:Nat
 defs:List Nat
noncomputable def MA.eval(G:GB)(a:MA):Operand→Option MV
 | .tmp t=>a.tmps.get t
 | .const v=>jk v
 | .global g=>cond (Nat.blt g G.g0) (some (.ptr g 0)) none
 | .func f=>some (.fn f [] [])
noncomputable def MA.put(a:MA)(dst:Option Tmp)(v:MV):MA:=
 match dst with
 |none=>a
 |some d=>cond (Nat.blt d a.nt) {a with tmps:=a.tmps.put d v} a
def Fe:Sem Value→Option MV
 | .pure v=>jk v
 |_=>none
inductive gW where
 |ptr
 |sl (len cap:Nat)
 |mp
def gW.at(id:Nat):gW→MV
 | .ptr=>.ptr id 0
 | .sl len cap=>.sl id 0 len cap
 | .mp=>.mp id
inductive MR where
 |val (v:MV)
 |new (k:gW) (b:MB)
 |upd (v:MV) (h:MH)
 |enter (f:FuncId) (args:List MV)
 |round (id:Nat) (args:List MV)
noncomputable def MH.new(h:MH)(b:MB):MH:={hp:=h.hp.put h.nx b,nx:=Nat.succ h.nx}
noncomputable def MH.set(h:MH)(id:Nat)(b:MB):MH:={h with hp:=h.hp.put id b}
noncomputable def MH.get(h:MH)(id:Nat):Option MB:=h.hp.get id
noncomputable def iU{α:Type}(l:List α):Nat→Option α:=
 List.rec (fun _=>none) (fun a _ ih n=>Nat.rec (some a) (fun n _=>ih n) n) l
noncomputable def KN{α:Type}(l:List α):Nat→α→List α:=
 List.rec (fun _ _=>[]) (fun a l ih n v=>Nat.rec (v::l) (fun n _=>a::ih n v) n) l
noncomputable def BR{α:Type}(vs:List α):List α→List α:=
 List.rec (fun l=>l) (fun v _ ih l=>List.rec [] (fun _ l _=>v::ih l) l) vs
noncomputable def jD{α:Type}(n:Nat)(vs:List α):List α→List α:=
 Nat.rec (fun l=>BR vs l) (fun _ ih l=>List.rec [] (fun a l _=>a::ih l) l) n
noncomputable def uN{α:Type}(n:Nat):List α→List α:=
 Nat.rec (fun l=>l) (fun _ ih l=>List.rec [] (fun _ l _=>ih l) l) n
noncomputable def kP{α:Type}(n:Nat):List α→Option (List α):=
 Nat.rec (fun _=>some []) (fun _ ih l=>List.rec none (fun a l _=>Option.rec none (fun r=>some (a::r)) (ih l)) l) n
noncomputable def dC{α:Type}(l:List α):Nat→Nat:=List.rec (fun n=>n) (fun _ _ ih n=>ih (Nat.succ n)) l
noncomputable def BU{α:Type}(n:Nat)(l:List α):List α:=Nat.rec [] (fun _ ih=>l++ih) n
noncomputable def KO{α:Type}(l:List α):Nat→List α:=
 List.rec (fun _=>[]) (fun a l ih n=>Nat.rec l (fun n _=>a::ih n) n) l
section ops
variable (E:Env)
noncomputable def dK(t:TypeId):Option MT:=E.ty.get t
noncomputable def zeroV(T:MT):Option MV:=match T.info.zero with|some v=>(match jk v with|some m=>cond (and (ones m.cells) (Nat.beq (dC m.cells 0) T.info.size)) (some m) none|none=>none)|none=>none
noncomputable def qE(T:MT):Option (List MV):=match zeroV T with|some m=>some m.cells|none=>none
def uO(T:MT):Bool:=match T.und with | .struct _=>true | .array _ _=>true|_=>false
noncomputable def Ff(T:MT)(i:Nat):Option Field:=match T.und with | .struct fs=>iU fs.toList i|_=>none
noncomputable def jQ(h:MH)(id off n:Nat):Option (List MV):=
 match h.get id with
 |some (.cells cs _ _ _)=>kP n (uN off cs)
 |_=>none
noncomputable def partOf(T:MT)(cs:List MV)(off:Nat):Option MV:=
 cond (uO T) (match kP T.info.size (uN off cs)with|some l=>some (.agg l)|none=>none) (iU cs off)
noncomputable def BV(T:MT)(h:MH)(id off:Nat):Option MV:=
 match h.get id with
 |some (.cells cs _ _ _)=>partOf T cs off
 |_=>none
noncomputable def xh(h:MH)(id off:Nat)(vs:List MV):Option MH:=
 cond (Nat.blt id E.G.ro) none
 (match h.get id with
 |some (.cells cs t es o)=>cond (and (ones vs) (Nat.ble (Nat.add off (dC vs 0)) (dC cs 0))) (some (h.set id (.cells (jD off vs cs) t es o))) none
 |_=>none)
def Fg:MV→Option Nat
 | .int _ (.ofNat n)=>some n
 |_=>none
abbrev Ev:=Operand→Option MV
noncomputable def mf(place:Nat→Option (Nat×Nat))(ev:Ev)(ps:List (Nat×Operand)):List MV→Option (List MV):=
 List.rec (fun cells=>some cells) (fun p _ ih cells=>
  match place p.1,ev p.2 with
  |some (off,size),some v=>
   cond (and (ones v.cells) (and (Nat.beq (dC v.cells 0) size) (Nat.ble (Nat.add off size) (dC cells 0)))) (ih (jD off v.cells cells)) none
  |_,_=>none) ps
noncomputable def evs(ev:Ev)(l:List Operand):Option (List MV):=
 List.rec (some []) (fun x _ ih=>Option.rec none (fun v=>Option.rec none (fun vs=>some (v::vs)) ih) (ev x)) l
noncomputable def xk(a:List Nat):List Nat→Bool:=
 List.rec (fun b=>List.rec false (fun _ _ _=>true) b) (fun x _ ih b=>List.rec false (fun y b _=>or (Nat.blt x y) (and (Nat.beq x y) (ih b))) b) a
noncomputable def uP(a:List Nat):List Nat→Bool:=
 List.rec (fun b=>List.rec true (fun _ _ _=>false) b) (fun x _ ih b=>List.rec false (fun y b _=>and (Nat.beq x y) (ih b)) b) a
def yR:MV→Bool
 | .sl ..=>true
 | .bQ ..=>true
 | .sle ..=>true
 |_=>false
def isFn:MV→Bool
 | .fn ..=>true
 | .dh ..=>true
 |_=>false
noncomputable def mg(t:TypeDesc)(x y:MV):Option Bool:=
 match t with
 | .bool=>match x,y with | .bool a,.bool b=>some (a == b)|_,_=>none
 | .int _=>match x,y with | .int k a,.int k' b=>cond (decide (k=k')) (some (decide (a=b))) none|_,_=>none
 | .string=>match x,y with | .str a,.str b=>some (uP a b)|_,_=>none
 | .pointer _=>match x,y with
  | .dB,.dB=>some true
  | .dB,.ptr ..=>some false
  | .ptr ..,.dB=>some false
  |_,_=>none
 | .slice _=>match x,y with
  | .bC,.bC=>some true
  | .bC,y=>cond (yR y) (some false) none
  |x,.bC=>cond (yR x) (some false) none
  |_,_=>none
 | .map _ _=>match x,y with
  | .bV,.bV=>some true
  | .bV,.mp _=>some false
  | .mp _,.bV=>some false
  |_,_=>none
 | .func _ _ _=>match x,y with
  | .di,.di=>some true
  | .di,y=>cond (isFn y) (some false) none
  |x,.di=>cond (isFn x) (some false) none
  |_,_=>none
 |_=>none
noncomputable def KP(op:BinOp)(a b:List Nat):Option MV:=
 match op with
 | .add=>cond (Nat.ble (Nat.add (dC a 0) (dC b 0)) 1048576) (some (.str (a++b))) none
 | .eql=>some (.bool (uP a b))
 | .neq=>some (.bool (not (uP a b)))
 | .lss=>some (.bool (xk a b))
 | .leq=>some (.bool (or (xk a b) (uP a b)))
 | .gtr=>some (.bool (not (or (xk a b) (uP a b))))
 | .geq=>some (.bool (not (xk a b)))
 |_=>none
noncomputable def eqFields(fs:List Field)(xs ys:List MV):Option Bool:=
 List.rec (some true) (fun f _ ih=>
  match dK E f.type with
  |some F=>cond (or (uO F) (decide (f.name = "_"))) none (match iU xs f.offset,iU ys f.offset with
   |some x,some y=>match mg F.und x y with
    |some true=>ih
    |some false=>some false
    |none=>none
   |_,_=>none)
  |none=>none) fs
def UB(op:BinOp)(k:IntKind)(a:Int)(k':IntKind)(b:Int):Option MV:=Fe (binOp op 0 (.int k a) (.int k' b))
def uQ:MV→MV→Bool
 | .bool _,.bool _=>true
 | .dB,.dB=>true
 | .dB,.ptr ..=>true
 | .ptr ..,.dB=>true
 | .bC,.bC=>true
 | .bC,.sl ..=>true
 | .bC,.bQ ..=>true
 | .bC,.sle ..=>true
 | .sl ..,.bC=>true
 | .bQ ..,.bC=>true
 | .sle ..,.bC=>true
 | .bV,.bV=>true
 | .bV,.mp _=>true
 | .mp _,.bV=>true
 | .di,.di=>true
 | .di,.fn ..=>true
 | .di,.dh _=>true
 | .fn ..,.di=>true
 | .dh _,.di=>true
 |_,_=>false
noncomputable def KQ(op:BinOp)(t:TypeId)(x y:MV):Option MV:=
 match x,y with
 | .int k a,.int k' b=>UB op k a k' b
 | .str a,.str b=>KP op a b
 |x,y=>cond (uQ x y) (match dK E t with
  |some T=>match op with
   | .eql=>match mg T.und x y with|some b=>some (.bool b)|none=>none
   | .neq=>match mg T.und x y with|some b=>some (.bool (not b))|none=>none
   |_=>none
  |none=>none) none
noncomputable def bytesOf(l:List MV):Option (List Nat):=
 List.rec (some []) (fun v _ ih=>match v with
  | .int .u8 (.ofNat n)=>cond (Nat.blt n 256) (match ih with|some r=>some (n::r)|none=>none) none
  |_=>none) l
noncomputable def ofBytes(l:List Nat):List MV:=List.rec [] (fun n _ ih=>.int .u8 (.ofNat n)::ih) l
noncomputable def mZ(es:Nat)(h:MH):MV→Option (List MV)
 | .bC=>some []
 | .sle ..=>some []
 | .sl id off len _=>jQ h id off (Nat.mul len es)
 | .bQ id off _ len=>jQ h id off (Nat.mul len es)
 |_=>none
noncomputable def nZ(h:MH):MV→Option Nat
 | .str s=>some (dC s 0)
 | .bC=>some 0
 | .sle ..=>some 0
 | .sl _ _ n _=>some n
 | .bQ _ _ _ n=>some n
 | .bV=>some 0
 | .mp id=>match h.get id with|some (.map es _)=>some (dC es 0)|_=>none
 |_=>none
def isByte(T:MT):Bool:=match T.und with | .int .u8=>true|_=>false
noncomputable def Fh(h:MH):MV→Option MR
 | .sl id off len cap=>match h.get id with
  |some (.cells cs t es o)=>cond (Nat.ble E.G.ro id) (some (.upd (.sl id off len cap) (h.set id (.cells cs t es o)))) none
  |_=>none
 |_=>none
noncomputable def KR(src dst:TypeId)(x:MV)(h:MH):Option MR:=
 match dK E src,dK E dst with
 |some S,some D=>
  match D.und,x with
  | .int k,.int _ n=>match S.und with | .int _=>some (.val (.int k (k.wrap n)))|_=>none
  | .string,.str s=>match S.und with | .string=>some (.val (.str s))|_=>none
  | .slice e,.str s=>match S.und,dK E e with
   | .string,some T=>cond (isByte T) (some (.upd (.bQ h.nx 0 0 (dC s 0)) (h.new (.cells (ofBytes s) e 1 true)))) none
   |_,_=>none
  | .string,x=>match S.und with
   | .slice e=>match dK E e with
    |some T=>cond (isByte T) (match mZ 1 h x with
     |some c=>match bytesOf c with|some s=>some (.val (.str s))|none=>none
     |none=>none) none
    |none=>none
   |_=>none
  | .slice e,x=>match S.und,dK E e with
   | .slice _,some T=>cond (and (Nat.beq src dst) (isByte T)) (Fh E h x) none
   |_,_=>none
  |_,_=>none
 |_,_=>none
noncomputable def oP(ev:Ev):Option Operand→Option (Option Nat)
 |none=>some none
 |some x=>match ev x with|some v=>(match Fg v with|some n=>some (some n)|none=>none)|none=>none
def od(o:Option Nat)(n:Nat):Nat:=match o with|some m=>m|none=>n
noncomputable def yS(id off cap es lo hi mx:Nat):Option MR:=
 cond (and (Nat.ble lo hi) (and (Nat.ble hi mx) (Nat.ble mx cap)))
  (some (.val (.sl id (cond (Nat.beq mx lo) off (Nat.add off (Nat.mul lo es))) (Nat.sub hi lo) (Nat.sub mx lo)))) none
noncomputable def Fj(id off l len es lo hi:Nat):Option MR:=
 cond (and (Nat.ble lo hi) (Nat.ble hi len))
  (some (.val (cond (or (Nat.blt lo hi) (Nat.beq lo 0)) (.bQ id (Nat.add off (Nat.mul lo es)) (Nat.add l lo) (Nat.sub hi lo)) (.sle id off (Nat.add off (Nat.mul lo es)) (Nat.add l lo))))) none
noncomputable def oq(e:TypeId):Option Nat:=match dK E e with|some T=>some T.info.size|none=>none
noncomputable def KU(t:TypeId)(x:MV)(lo hi mx:Option Nat):Option MR:=
 match dK E t with
 |none=>none
 |some T=>
  match T.und,x with
  | .string,.str s=>match mx with
   |some _=>none
   |none=>cond (and (Nat.ble (od lo 0) (od hi (dC s 0))) (Nat.ble (od hi (dC s 0)) (dC s 0)))
    (match kP (Nat.sub (od hi (dC s 0)) (od lo 0)) (uN (od lo 0) s)with|some s=>some (.val (.str s))|none=>none) none
  | .slice e,.sl id off len cap=>match oq E e with
   |some es=>yS id off cap es (od lo 0) (od hi len) (od mx cap)
   |none=>none
  | .slice e,.bQ id off l len=>match oq E e with
   |some es=>match mx with
    |some m=>yS id off len es (od lo 0) (od hi len) m
    |none=>Fj id off l len es (od lo 0) (od hi len)
   |none=>none
  | .slice e,.bC=>match oq E e with
   |some _=>cond (and (Nat.beq (od lo 0) 0) (and (Nat.beq (od hi 0) 0) (Nat.beq (od mx 0) 0))) (some (.val .bC)) none
   |none=>none
  | .slice e,.sle id a b l=>match oq E e,mx with
   |some _,none=>cond (and (Nat.beq (od lo 0) 0) (Nat.beq (od hi 0) 0)) (some (.val (.sle id a b l))) none
   |_,_=>none
  | .array n e,.ptr id off=>match oq E e with
   |some es=>yS id off n es (od lo 0) (od hi n) (od mx n)
   |none=>none
  |_,_=>none
noncomputable def UC(X:MT)(Te:MT)(h:MH)(x:MV):Option (Nat×List MV):=
 match X.und with
 | .int _=>match x,qE Te with
  | .int _ (.ofNat n),some z=>cond (Nat.ble n 1048576) (some (n,BU n z)) none
  |_,_=>none
 |_=>match x with
  | .str b=>cond (Nat.beq Te.info.size 1) (some (dC b 0,ofBytes b)) none
  |x=>match nZ h x,mZ Te.info.size h x with|some n,some c=>some (n,c)|_,_=>none
noncomputable def yT(e:TypeId)(es len n:Nat)(cs:List MV)(h:MH):Option (MV×MH):=
 cond (Nat.ble (Nat.add len n) 1048576) (some ((.bQ h.nx 0 0 (Nat.add len n)),(h.new (.cells cs e es true)))) none
noncomputable def BX(e:TypeId)(es:Nat)(s:MV)(n:Nat)(c:List MV)(h:MH):Option (MV×MH):=
 match s with
 | .bC=>cond (Nat.beq n 0) (some (.bC,h)) (yT e es 0 n c h)
 | .sl id off len cap=>cond (Nat.ble (Nat.add len n) cap)
  (match xh E h id (Nat.add off (Nat.mul len es)) c with|some h=>some ((.sl id off (Nat.add len n) cap),h)|none=>none)
  (match jQ h id off (Nat.mul len es)with|some old=>yT e es len n (old++c) h|none=>none)
 | .bQ id off l len=>cond (Nat.beq n 0) (some ((.bQ id off l len),h))
  (match h.get id with
  |some (.cells cs t' es' true)=>cond (and (Nat.ble E.G.ro id) (and (Nat.beq es' es) (and (Nat.beq off (Nat.mul l es)) (Nat.beq t' e)))) (match kP (Nat.mul len es) (uN off cs)with
   |some old=>yT e es len n (old++c) (h.set id .dead)
   |none=>none) none
  |_=>none)
 |_=>none
noncomputable def Fp(argTypes:List TypeId)(s x:MV)(h:MH):Option (MV×MH):=
 match iU argTypes 0,iU argTypes 1 with
 |some st,some xt=>match dK E st,dK E xt with
  |some S,some X=>match S.und with
   | .slice e=>match dK E e with
    |none=>none
    |some Te=>cond (and (Nat.blt 0 Te.info.size) (Nat.ble Te.info.bytes 65536)) (match UC X Te h x,qE Te with
     |some (n,c),some _=>BX E e Te.info.size s n c h
     |_,_=>none) none
   |_=>none
  |_,_=>none
 |_,_=>none
def Fq(a b:Nat):Nat:=cond (Nat.ble a b) a b
noncomputable def uT(es n:Nat)(h:MH)(x:MV):Option (List MV):=
 match x with
 | .str b=>match kP n b with|some l=>some (ofBytes l)|none=>none
 |x=>match mZ es h x with|some c=>kP (Nat.mul n es) c|none=>none
noncomputable def Fv(d:MV)(n:Nat)(c:List MV)(h:MH):Option (MV×MH):=
 match d with
 | .sl id off _ _=>match xh E h id off c with|some h=>some ((.int .i64 (.ofNat n)),h)|none=>none
 | .bQ id off _ _=>match xh E h id off c with|some h=>some ((.int .i64 (.ofNat n)),h)|none=>none
 | .bC=>some ((.int .i64 0),h)
 |_=>none
noncomputable def Fz(argTypes:List TypeId)(d x:MV)(h:MH):Option (MV×MH):=
 match iU argTypes 0 with
 |some dt=>match dK E dt with
  |some D=>match D.und with
   | .slice e=>match oq E e,nZ h d,nZ h x with
    |some es,some dl,some xl=>match uT es (Fq xl dl) h x with
     |some c=>Fv E d (Fq xl dl) c h
     |none=>none
    |_,_,_=>none
   |_=>none
  |none=>none
 |none=>none
noncomputable def oQ(T:TypeDesc)(k:MV)(l:List ME):Nat→Option (Option (Nat×ME)):=
 List.rec (fun _=>some none) (fun e _ ih i=>match mg T k e.key with
  |some true=>some (some (i,e))
  |some false=>ih (Nat.succ i)
  |none=>none) l
def dM:TypeDesc→Bool
 | .bool=>true
 | .string=>true
 | .int _=>true
 |_=>false
noncomputable def mapOf(h:MH):MV→Option (List ME×Nat)
 | .bV=>some ([],0)
 | .mp id=>match h.get id with|some (.map es c)=>some (es,c)|_=>none
 |_=>none
noncomputable def yU(t:TypeId):Option (TypeDesc×TypeId):=
 match dK E t with
 |some T=>match T.und with
  | .map kt el=>match dK E kt with|some K=>cond (dM K.und) (some (K.und,el)) none|none=>none
  |_=>none
 |none=>none
def found(ok:Bool)(v:MV)(b:Bool):MV:=cond ok (.bY [v,.bool b]) v
noncomputable def KW(t:TypeId)(m k:MV)(ok:Bool)(h:MH):Option MR:=
 match yU E t,mapOf h m with
 |some (K,el),some (es,_)=>match oQ K k es 0 with
  |some (some (_,e))=>some (.val (found ok e.val true))
  |some none=>match dK E el with
   |some Te=>match zeroV Te with
    |some z=>some (.val (found ok z false))
    |none=>none
   |none=>none
  |none=>none
 |_,_=>none
noncomputable def UD(t:TypeId)(m k v:MV)(h:MH):Option (MV×MH):=
 match yU E t,m with
 |some (K,_),.mp id=>match h.get id with
  |some (.map es c)=>cond (Nat.ble E.G.ro id) (match oQ K k es 0 with
   |some (some (i,e))=>some (jL,(h.set id (.map (KN es i {e with key:=k,val:=v}) c)))
   |some none=>some (jL,(h.set id (.map (es++[⟨k,v,c⟩]) (Nat.succ c))))
   |none=>none) none
  |_=>none
 |_,_=>none
noncomputable def FB(t:TypeId)(m k:MV)(h:MH):Option (MV×MH):=
 match yU E t,m with
 |some (K,_),.mp id=>match h.get id with
  |some (.map es c)=>cond (Nat.ble E.G.ro id) (match oQ K k es 0 with
   |some (some (i,_))=>some (jL,(h.set id (.map (KO es i) c)))
   |some none=>some (jL,h)
   |none=>none) none
  |_=>none
 |_,_=>none
noncomputable def FC(n:Nat)(l:List Nat):Bool:=List.rec true (fun m _ ih=>Bool.rec ih false (Nat.beq n m)) l
noncomputable def leftOf(seen:List Nat)(l:List ME):List ME:=List.rec [] (fun e _ ih=>Bool.rec ih (e::ih) (FC e.born seen)) l
noncomputable def UE(r m since:Nat)(seen:List Nat)(last:Nat)(es:List ME)(clock:Nat)(h:MH):Option (MV×MH):=
 cond (and (not seen.isEmpty) (and (not es.isEmpty) (es.all fun e=>Nat.ble last e.born))) none
  (match leftOf seen es with
   | []=>some ((.bY [.bool false]),h)
   | [e]=>cond (Nat.blt e.born since) (some ((.bY [.bool true,e.key,e.val]),(h.set r (.iter (some m) since (seen++[e.born]) clock)))) none
   |_=>none)
noncomputable def UF(it:MV)(isString:Bool)(h:MH):Option (MV×MH):=
 match it with
 | .ptr r 0=>cond (or isString (Nat.blt r E.G.ro)) none (match h.get r with
  |some (.iter none _ _ _)=>some ((.bY [.bool false]),h)
  |some (.iter (some m) since seen last)=>match h.get m with
   |some (.map es clock)=>UE r m since seen last es clock h
   |_=>none
  |_=>none)
 |_=>none
noncomputable def BZ(s:Nat)(l:List ME):Option ME:=List.rec none (fun e _ ih=>Bool.rec ih (some e) (Nat.beq e.born s)) l
noncomputable def FD(l:List Nat):Option Nat:=List.rec none (fun n _ ih=>Option.rec (some n) (fun m=>some m) ih) l
noncomputable def UG(it:MV)(h:MH):Option MV:=
 match it with
 | .ptr r 0=>match h.get r with
  |some (.iter (some m) _ seen stepped)=>match h.get m with
   |some (.map es clock)=>cond (Nat.beq clock stepped) (match FD seen with
    |some s=>match BZ s es with|some e=>some (.bY [e.key,e.val])|none=>none
    |none=>none) none
   |_=>none
  |_=>none
 |_=>none
noncomputable def UH(t:TypeId)(x:MV)(h:MH):Option (MV×MH):=
 match dK E t with
 |some T=>match T.und,x with
  | .map _ _,.bV=>some ((.ptr h.nx 0),(h.new (.iter none 0 [] 0)))
  | .map _ _,.mp id=>match h.get id with|some (.map _ c)=>some ((.ptr h.nx 0),(h.new (.iter (some id) c [] c)))|_=>none
  |_,_=>none
 |none=>none
def KX:MV→MV→Option MV
 | .int k a,.int _ b=>some (.int k (if b<a then b else a))
 |_,_=>none
def KY:MV→MV→Option MV
 | .int k a,.int _ b=>some (.int k (if b > a then b else a))
 |_,_=>none
noncomputable def Cb(t:TypeId)(x:MV)(h:MH):Option MR:=
 match dK E t with
 |some T=>match T.und with
  | .array n _=>some (.val (.int .i64 (.ofNat n)))
  | .pointer a=>match dK E a with
   |some Ta=>match Ta.und with | .array n _=>some (.val (.int .i64 (.ofNat n)))|_=>none
   |none=>none
  | .string=>match x with | .str s=>some (.val (.int .i64 (.ofNat (dC s 0))))|_=>none
  | .slice _=>match x with
   | .str _=>none
   | .bV=>none
   | .mp _=>none
   |x=>match nZ h x with|some n=>some (.val (.int .i64 (.ofNat n)))|none=>none
  | .map _ _=>match mapOf h x with|some (es,_)=>some (.val (.int .i64 (.ofNat (dC es 0))))|none=>none
  |_=>none
 |none=>none
noncomputable def Cc(t:TypeId)(x:MV):Option MR:=
 match dK E t with
 |some T=>match T.und,x with
  | .slice _,.sl _ _ _ c=>some (.val (.int .i64 (.ofNat c)))
  | .slice _,.bC=>some (.val (.int .i64 0))
  |_,_=>none
 |none=>none
def lC:Option (MV×MH)→Option MR
 |some (v,h)=>some (.upd v h)
 |none=>none
def mi:Option (gW×MB)→Option MR
 |some (k,b)=>some (.new k b)
 |none=>none
def vR:Option MV→Option MR
 |some v=>some (.val v)
 |none=>none
noncomputable def KZ(b:Builtin)(argTypes:List TypeId)(args:List MV)(h:MH):Option MR:=
 match args with
 | [x]=>match b,iU argTypes 0 with
  | .len,some t=>Cb E t x h
  | .cap,some t=>Cc E t x
  |_,_=>none
 | [x,y]=>match b with
  | .append=>lC (Fp E argTypes x y h)
  | .copy=>lC (Fz E argTypes x y h)
  | .delete=>match iU argTypes 0 with|some t=>lC (FB E t x y h)|none=>none
  | .min=>vR (KX x y)
  | .max=>vR (KY x y)
  |_=>none
 |_=>none
noncomputable def Ce(l:List Nat)(c:Nat):Nat→Int:=
 List.rec (fun _=>-1) (fun b _ ih i=>Bool.rec (ih (Nat.succ i)) (.ofNat i) (Nat.beq b c)) l
noncomputable def yV(k:KL)(args:List MV):Option MR:=
 match k,args with
 | .UA,[.str s,.int .u8 (.ofNat c)]=>cond (Nat.blt c 256) (some (.val (.int .i64 (Ce s c 0)))) none
 |_,_=>none
noncomputable def La(f:FuncId)(args:List MV):Option MR:=
 match E.ext f with
 |some k=>yV k args
 |none=>some (.enter f args)
noncomputable def Lc(f:MV)(args:List MV):Option MR:=
 match f with
 | .fn f a b=>La E f (a++args++b)
 | .dh l=>some (.round l args)
 |_=>none
noncomputable def sO(ev:Ev)(c:Call)(h:MH):Option MR:=
 match evs ev c.args.toList with
 |none=>none
 |some args=>match c.callee with
  | .builtin b=>KZ E b c.argTypes.toList args h
  | .value f=>match ev f with|some f=>Lc E f args|none=>none
  | .invoke ..=>none
noncomputable def yX(ev:Ev)(c a b:Operand):Option MR:=
 match ev c with|some (.bool t)=>vR (cond t (ev a) (ev b))|_=>none
noncomputable def FH(k:gW)(cs:List MV)(t:TypeId)(T:MT):gW×MB:=(k,.cells cs t T.info.size false)
noncomputable def UI(t:TypeId):Option (gW×MB):=
 match dK E t with|some T=>(match qE T with|some z=>some (FH .ptr z t T)|none=>none)|none=>none
noncomputable def Ld(ev:Ev)(t:TypeId)(x:Operand):Option (gW×MB):=
 match dK E t,ev x with|some T,some v=>cond (ones v.cells) (some (FH .ptr v.cells t T)) none|_,_=>none
noncomputable def Cf(fs:List Field):Option (List (Nat×Nat)):=
 List.rec (some []) (fun f _ ih=>match oq E f.type,ih with|some n,some l=>some ((f.offset,n)::l)|_,_=>none) fs
def FI(n:Nat)(i:Nat):Option (Nat×Nat):=some (Nat.mul i n,n)
def yY:Option (List MV)→Option MR|some c=>some (.val (.agg c))|none=>none
noncomputable def yZ(ev:Ev)(t:TypeId)(parts:Array (Nat×Operand)):Option MR:=
 match dK E t with
 |none=>none
 |some T=>match qE T,T.und with
  |some z,.struct fs=>match Cf E fs.toList with
   |some ps=>yY (mf (iU ps) ev parts.toList z)
   |none=>none
  |some z,.array _ e=>match oq E e with
   |some es=>yY (mf (FI es) ev parts.toList z)
   |none=>none
  |_,_=>none
noncomputable def Le(ev:Ev)(t:TypeId)(len:Nat)(parts:Array (Nat×Operand)):Option (gW×MB):=
 match dK E t with
 |none=>none
 |some T=>match T.und with
  | .slice e=>match dK E e with
   |none=>none
   |some Te=>match qE Te with
    |none=>none
    |some z=>cond (Nat.ble (Nat.mul len Te.info.size) 65536) (match mf (FI Te.info.size) ev parts.toList (BU len z)with
     |some c=>some (FH (.sl len len) c e Te)
     |none=>none) none
  |_=>none
noncomputable def zf(ev:Ev)(t:TypeId)(x:Operand)(h:MH):Option MR:=
 match dK E t,ev x with
 |some T,some (.ptr id off)=>vR (BV T h id off)
 |_,_=>none
noncomputable def FK(ev:Ev)(t:TypeId)(x v:Operand)(h:MH):Option (MV×MH):=
 match dK E t,ev x,ev v with
 |some T,some (.ptr id off),some v=>cond (Nat.beq (dC v.cells 0) T.info.size) (match xh E h id off v.cells with|some h=>some (jL,h)|none=>none) none
 |_,_,_=>none
noncomputable def zg(ev:Ev)(x:Operand):Option MR:=
 match ev x with
 |some (.ptr id off)=>some (.val (.ptr id off))
 |some (.fn f a b)=>some (.val (.fn f a b))
 |some (.dh l)=>some (.val (.dh l))
 |some (.mp id)=>some (.val (.mp id))
 |_=>none
def isConst:Operand→Bool
 | .const _=>true
 |_=>false
noncomputable def zh(ev:Ev)(op:BinOp)(t:TypeId)(x y:Operand):Option MR:=
 match ev x,ev y with
 |some (.agg a),some (.agg b)=>match dK E t with
  |some T=>match T.und,op with
   | .struct fs,.eql=>cond (E.cmp t) (match eqFields E fs.toList a b with|some r=>some (.val (.bool r))|none=>none) none
   | .struct fs,.neq=>cond (E.cmp t) (match eqFields E fs.toList a b with|some r=>some (.val (.bool (not r)))|none=>none) none
   |_,_=>none
  |none=>none
 |some .dR,some .dR=>cond (or (isConst x) (isConst y)) (match dK E t with
  |some T=>match T.und,op with
   | .interface _,.eql=>some (.val (.bool true))
   | .interface _,.neq=>some (.val (.bool false))
   |_,_=>none
  |none=>none) none
 |some x,some y=>vR (KQ E op t x y)
 |_,_=>none
noncomputable def Lh(ev:Ev)(op:BinOp)(t:TypeId)(x y:Operand):Option MV:=
 match ev x,ev y with|some a,some b=>E.bo op t a b|_,_=>none
noncomputable def zi(ev:Ev)(op:BinOp)(t:TypeId)(x y:Operand):Option MR:=
 match Lh E ev op t x y with|some v=>some (.val v)|none=>zh E ev op t x y
noncomputable def zk(ev:Ev)(op:UnOp)(x:Operand):Option MR:=
 match ev x with
 |some (.bool b)=>match op with | .not=>some (.val (.bool (not b)))|_=>none
 |some (.int k n)=>vR (Fe (Op.unary op (.int k n)))
 |_=>none
noncomputable def xm(ev:Ev)(s d:TypeId)(x:Operand)(h:MH):Option MR:=match ev x with|some x=>(match E.co s d x with|some v=>some (.val v)|none=>KR E s d x h)|none=>none
noncomputable def zl(ev:Ev)(fn:Fn)(first captured:Array Operand):Option MR:=
 match fn,evs ev first.toList,evs ev captured.toList with
 | .func f,some a,some b=>some (.val (.fn f a b))
 |_,_,_=>none
noncomputable def Ll(ev:Ev)(t:TypeId)(r:Option Operand):Option (gW×MB):=
 match r with
 |none=>some (.mp,.map [] 0)
 |some x=>match ev x,yU E t with|some (.int ..),some _=>some (.mp,.map [] 0)|_,_=>none
noncomputable def sQ(ev:Ev)(x:Operand):Option Nat:=match ev x with|some v=>Fg v|none=>none
noncomputable def Lm(ev:Ev)(t:TypeId)(l c:Operand):Option (gW×MB):=
 match dK E t,sQ ev l,sQ ev c with
 |some T,some l,some c=>match T.und with
  | .slice e=>match dK E e with
   |some Te=>match qE Te with
    |some z=>cond (and (Nat.ble l c) (and (Nat.ble c 1048576) (Nat.ble Te.info.bytes 65536))) (some (FH (.sl l c) (BU c z) e Te)) none
    |none=>none
   |none=>none
  |_=>none
 |_,_,_=>none
noncomputable def zn(ev:Ev)(t:TypeId)(x:Operand)(lo hi mx:Option Operand):Option MR:=
 match ev x,oP ev lo,oP ev hi,oP ev mx with
 |some x,some lo,some hi,some mx=>match hi,mx with
  |none,some _=>none
  |_,_=>KU E t x lo hi mx
 |_,_,_,_=>none
noncomputable def zo(ev:Ev)(t:TypeId)(x:Operand)(f:Nat):Option MR:=
 match dK E t,ev x with
 |some T,some (.ptr id off)=>match Ff T f with
  |some F=>match oq E F.type with
   |some n=>cond (Nat.beq n 0) none (some (.val (.ptr id (Nat.add off F.offset))))
   |none=>none
  |none=>none
 |_,_=>none
noncomputable def zq(ev:Ev)(t:TypeId)(x:Operand)(f:Nat):Option MR:=
 match dK E t,ev x with
 |some T,some (.agg cs)=>match Ff T f with
  |some F=>match dK E F.type with|some FT=>vR (partOf FT cs F.offset)|none=>none
  |none=>none
 |_,_=>none
noncomputable def xn(e:TypeId)(id off len i:Nat):Option MR:=
 match oq E e with
 |some n=>cond (Nat.blt i len) (some (.val (.ptr id (Nat.add off (Nat.mul i n))))) none
 |none=>none
noncomputable def zt(ev:Ev)(t:TypeId)(x i:Operand):Option MR:=
 match dK E t,ev x,sQ ev i with
 |some T,some x,some i=>match T.und,x with
  | .array n e,.ptr id off=>xn E e id off n i
  | .slice e,.sl id off len _=>xn E e id off len i
  | .slice e,.bQ id off _ len=>xn E e id off len i
  |_,_=>none
 |_,_,_=>none
noncomputable def zu(ev:Ev)(t:TypeId)(x i:Operand):Option MR:=
 match dK E t,ev x,sQ ev i with
 |some T,some x,some i=>match T.und,x with
  | .array n e,.agg cs=>match dK E e with
   |some Te=>cond (Nat.blt i n) (vR (partOf Te cs (Nat.mul i Te.info.size))) none
   |none=>none
  | .string,.str s=>match iU s i with|some b=>some (.val (.int .u8 (.ofNat b)))|none=>none
  |_,_=>none
 |_,_,_=>none
noncomputable def zx(ev:Ev)(t:TypeId)(m k:Operand)(ok:Bool)(h:MH):Option MR:=
 match ev m,ev k with|some m,some k=>KW E t m k ok h|_,_=>none
noncomputable def zy(ev:Ev)(t:TypeId)(m k v:Operand)(h:MH):Option (MV×MH):=
 match ev m,ev k,ev v with|some m,some k,some v=>UD E t m k v h|_,_,_=>none
noncomputable def FM(ev:Ev)(t:TypeId)(x:Operand)(h:MH):Option (MV×MH):=match ev x with|some x=>UH E t x h|none=>none
noncomputable def FN(ev:Ev)(it:Operand)(s:Bool)(h:MH):Option (MV×MH):=match ev it with|some it=>UF E it s h|none=>none
noncomputable def zA(ev:Ev)(t:Operand)(i:Nat):Option MR:=match ev t with|some (.bY vs)=>vR (iU vs i)|_=>none
noncomputable def FO(ev:Ev)(it:Operand)(h:MH):Option MV:=match ev it with|some it=>UG it h|none=>none
noncomputable def fD(ev:Ev)(o:Op)(h:MH):Option MR:=
 match o with
 | .move x=>vR (ev x)
 | .assign x=>vR (ev x)
 | .pick c a b=>yX ev c a b
 | .alloc t=>mi (UI E t)
 | .box t x=>mi (Ld E ev t x)
 | .build t parts=>yZ E ev t parts
 | .buildSlice t len parts=>mi (Le E ev t len parts)
 | .load t x=>zf E ev t x h
 | .store t x v=>lC (FK E ev t x v h)
 | .nilCheck x=>zg ev x
 | .binOp op t x y _=>zi E ev op t x y
 | .unOp op _ x=>zk ev op x
 | .convert s d x=>xm E ev s d x h
 | .makeFunc fn first captured=>zl ev fn first captured
 | .makeMap t r=>mi (Ll E ev t r)
 | .makeSlice t l c=>mi (Lm E ev t l c)
 | .slice t x lo hi mx=>zn E ev t x lo hi mx
 | .fieldAddr t x f=>zo E ev t x f
 | .field t x f=>zq E ev t x f
 | .indexAddr t x i=>zt E ev t x i
 | .index t x i=>zu E ev t x i
 | .lookup t m k ok=>zx E ev t m k ok h
 | .mapUpdate t m k v=>lC (zy E ev t m k v h)
 | .insert t m k v=>lC (zy E ev t m k v h)
 | .range t x=>lC (FM E ev t x h)
 | .next it s=>lC (FN E ev it s h)
 | .entry it=>vR (FO ev it h)
 | .extract t i=>zA ev t i
 | .call c=>sO E ev c h
 |_=>none
end ops
end Go.aI
namespace Go.aI
def ng:List Nat→List Nat→Bool
 | [],[]=>true
 |a::x,b::y=>and (Nat.beq a b) (ng x y)
 |_,_=>false
mutual
def eqv:MV→MV→Bool
 | .bool a,.bool b=>a == b
 | .int k a,.int k' b=>and (decide (k=k')) (decide (a=b))
 | .str a,.str b=>ng a b
 | .dB,.dB=>true
 | .ptr a b,.ptr c d=>and (Nat.beq a c) (Nat.beq b d)
 | .bC,.bC=>true
 | .sl a b c d,.sl a' b' c' d'=>and (and (Nat.beq a a') (Nat.beq b b')) (and (Nat.beq c c') (Nat.beq d d'))
 | .bQ a b c d,.bQ a' b' c' d'=>and (and (Nat.beq a a') (Nat.beq b b')) (and (Nat.beq c c') (Nat.beq d d'))
 | .sle a b c d,.sle a' b' c' d'=>and (and (Nat.beq a a') (Nat.beq b b')) (and (Nat.beq c c') (Nat.beq d d'))
 | .dh a,.dh b=>Nat.beq a b
 | .bV,.bV=>true
 | .mp a,.mp b=>Nat.beq a b
 | .di,.di=>true
 | .dR,.dR=>true
 | .fn f a b,.fn g c d=>and (Nat.beq f g) (and (oU a c) (oU b d))
 | .opq a,.opq b=>Nat.beq a b
 | .agg a,.agg b=>oU a b
 | .bY a,.bY b=>oU a b
 |_,_=>false
def oU:List MV→List MV→Bool
 | [],[]=>true
 |a::x,b::y=>and (eqv a b) (oU x y)
 |_,_=>false
end
def fO:MB→MB→Bool
 | .cells a t e o,.cells b t' e' o'=>and (oU a b) (and (and (Nat.beq t t') (Nat.beq e e')) (o == o'))
 | .map [] c,.map [] c'=>Nat.beq c c'
 |_,_=>false
inductive MX where
 |normal
 |exit (id:Nat)
 |goto (l:Nat)
 |ret
structure MO where
 e:MX
 a:MA
 h:MH
inductive Task where
 |call (f:FuncId) (args:List MV)
 |round (id:Nat) (args:List MV)
structure PE where
 i:Nat
 o:Oper
 pre:Nat
def floats(o:Oper):Bool:=
 match o.op with
 | .move _ | .pick .. | .load .. | .binOp .. | .unOp .. | .makeFunc .. | .slice .. | .fieldAddr .. | .field .. | .indexAddr .. | .index .. | .lookup .. | .extract .. | .build .. | .nilCheck _
 | .convert .. | .alloc _ | .box .. | .buildSlice .. | .makeSlice .. | .makeMap ..=>true
 | .call {callee:=.builtin b,..}=>match b with | .len | .cap | .min | .max=>true|_=>false
 |_=>false
noncomputable def oV(ms:List Nat)(es:List Edge):Nat:=
 List.rec 0 (fun e _ ih=>Bool.rec ih (Nat.lor ih (Nat.lor (Nat.shiftLeft 1 e.on) (match iU ms e.on with|some m=>m|none=>0))) (Region.binds .any e)) es
noncomputable def uU(l:List Oper):Nat→List Nat→List PE:=
 List.rec (fun _ _=>[]) (fun o _ ih i ms=>⟨i,o,oV ms o.after.toList⟩::ih (Nat.succ i) (ms++[oV ms o.after.toList])) l
noncomputable def Lp(m:Nat)(l:List PE):Bool:=List.rec false (fun p _ ih=>Bool.rec ih true (Nat.testBit m p.i)) l
noncomputable def Ci(p:PE)(l:List PE):List PE:=List.rec [p] (fun q l ih=>Bool.rec (p::q::l) (q::ih) (Lp p.pre (q::l))) l
noncomputable def Cj(l:List PE):List PE→List PE:=
 List.rec (fun acc=>acc) (fun p _ ih acc=>ih (Bool.rec (acc++[p]) (Ci p acc) (floats p.o))) l
def kD(d:Option Tmp)(l:List Tmp):Bool:=match d with|some t=>l.any (Nat.beq t)|none=>false
def uV(a b:Option Tmp):Bool:=match a,b with|some x,some y=>Nat.beq x y|_,_=>false
def xq(ops:Array Oper)(p q:PE):Bool:=
 or (and (Nat.testBit q.pre p.i) (not (floats q.o)))
  (and (and (not (kD q.o.dst (p.o.looksAt ops))) (not (uV p.o.dst q.o.dst))) (or (Nat.testBit q.pre p.i) (and (floats p.o) (not (kD p.o.dst (q.o.looksAt ops))))))
def xu(o:Oper):Bool:=match o.op with | .select ..=>false | .defer _=>false|_=>true
def Lr(p:PE):Bool:=p.o.after.toList.all fun e=>or (not (Region.binds .any e)) (Nat.blt e.on p.i)
def xx(ops:Array Oper):List PE→Bool
 | []=>true
 |p::l=>and (and (xu p.o) (and (not (kD p.o.dst (p.o.looksAt ops))) (Lr p))) (and (l.all (xq ops p)) (xx ops l))
noncomputable def FP(ops:Array Oper):Option (List PE):=
 cond (xx ops (Cj (uU ops.toList 0 []) [])) (some (Cj (uU ops.toList 0 []) [])) none
inductive FR where
 |skip
 |look (v:MV)
 |ny (id:Nat) (k:gW) (b:MB)
structure FL where
 p:PE
 r:FR
section run
variable (E:Env) (go:Task→MH→Option (MV×MH))
noncomputable def am5(ops:Array Oper)(a:MA)(j:Nat):Option Bool:=
 match iU ops.toList j with
 |some o=>match o.dst with
  |some d=>match a.tmps.get d with|some (.bool b)=>some b|_=>none
  |none=>none
 |none=>none
noncomputable def lF(ops:Array Oper)(a:MA)(o:Oper):Option Bool:=
 match o.guard with
 |none=>some true
 |some (j,b)=>match iU ops.toList j with
  |some g=>match g.dst with
   |some d=>match a.tmps.get d with
    |some (.bool c)=>some (c == b)
    |some (.bY _)=>some false
    |_=>none
   |none=>none
  |none=>none
noncomputable def lG(h:MH):Option MR→Option (MV×MH)
 |some (.val v)=>some (v,h)
 |some (.new k b)=>some (k.at h.nx,h.new b)
 |some (.upd v h')=>some (v,h')
 |some (.enter f args)=>go (.call f args) h
 |some (.round l args)=>go (.round l args) h
 |none=>none
noncomputable def zB(ops:Array Oper)(l:List Oper):MA→MH→Option (MA×MH):=
 List.rec (fun a h=>some (a,h)) (fun o _ ih a h=>
  match lF ops a o with
  |some true=>match lG go h (fD E (a.eval E.G) o.op h)with
   |some (v,h')=>ih (a.put o.dst v) h'
   |none=>none
  |some false=>ih (a.put o.dst jL) h
  |none=>none) l
noncomputable def zC(ev:Ev)(h:MH)(m:Nat)(f:FL):Bool:=
 Bool.rec (match f.r with
  | .skip=>true
  | .look v=>match fD E ev f.p.o.op h with|some (.val u)=>eqv u v|_=>false
  | .ny id _ b=>match h.get id with|some c=>fO c b|none=>false) true (Nat.testBit m f.p.i)
noncomputable def sS(ev:Ev)(h:MH)(m:Nat)(fl:List FL):Bool:=
 List.rec true (fun f _ ih=>Bool.rec false ih (zC E ev h m f)) fl
noncomputable def qF(m:Nat)(fl:List FL):List FL:=
 List.rec [] (fun f _ ih=>Bool.rec (f::ih) ih (Nat.testBit m f.p.i)) fl
noncomputable def kQ(ops:Array Oper)(l:List PE):List FL→MA→MH→Option (MA×MH):=
 List.rec (fun _ a h=>some (a,h)) (fun p _ ih fl a h=>
  match lF ops a p.o with
  |some true=>Bool.rec
    (match lG go h (fD E (a.eval E.G) p.o.op h)with
     |some (v,h')=>Bool.rec none (ih (qF p.pre fl) (a.put p.o.dst v) h') (sS E ((a.put p.o.dst v).eval E.G) h' p.pre fl)
     |none=>none)
    (match fD E (a.eval E.G) p.o.op h with
     |some (.val v)=>ih (⟨p,.look v⟩::fl) (a.put p.o.dst v) h
     |some (.new k b)=>Bool.rec none (ih (⟨p,.ny h.nx k b⟩::fl) (a.put p.o.dst (k.at h.nx)) (h.new b)) (sS E ((a.put p.o.dst (k.at h.nx)).eval E.G) (h.new b) 0 fl)
     |_=>none)
    (floats p.o)
  |some false=>Bool.rec (ih (qF p.pre fl) (a.put p.o.dst jL) h) (ih (⟨p,.skip⟩::fl) (a.put p.o.dst jL) h) (floats p.o)
  |none=>none) l
noncomputable def FQ(body:MA→MH→Option MO)(n:Nat):MA→MH→Option MO:=
 Nat.rec (fun _ _=>none) (fun _ ih a h=>match body a h with
  |some ⟨.normal,a',h'⟩=>ih a' h'
  |r=>r) n
def agR:MX→Option Code
 | .normal=>none
 | .ret=>some .ret
 | .exit id=>some (.exit id)
 | .goto l=>some (.goto l)
def zD:Option Code→Option MX
 |none=>some .normal
 |some .ret=>some .ret
 |some (.exit id)=>some (.exit id)
 |some (.goto l)=>some (.goto l)
 |_=>none
noncomputable def Cm(a:MA)(ps:List Nat)(assign body:Code)(rd:Option Nat)(h:MH):Option (Nat×MA×MH):=
 match rd with
 |some l=>match h.get l with
  |some (.loop L)=>some (h.nx,a,h.new (.loop ⟨.ready,none,a.tmps,a.nt,ps,assign,body,L.defers⟩))
  |_=>none
 |none=>some (Nat.succ h.nx,{a with defs:=h.nx::a.defs},(h.new .pU).new (.loop ⟨.ready,none,a.tmps,a.nt,ps,assign,body,h.nx⟩))
abbrev Ih:=Code→MA→MH→Option MO
noncomputable def UJ(ih:Ih)(x y:Code)(a:MA)(h:MH):Option MO:=
 match ih x a h with
 |some ⟨.normal,a',h'⟩=>ih y a' h'
 |r=>r
noncomputable def UK(ih:Ih)(c:Operand)(x y:Code)(a:MA)(h:MH):Option MO:=
 match a.eval E.G c with
 |some (.bool b)=>ih (cond b x y) a h
 |_=>none
noncomputable def UL(ih:Ih)(id:Nat)(c:Code)(a:MA)(h:MH):Option MO:=
 match ih c a h with
 |some ⟨.exit id',a',h'⟩=>some ⟨cond (Nat.beq id' id) .normal (.exit id'),a',h'⟩
 |r=>r
noncomputable def UM(ih:Ih)(c:Code)(a:MA)(h:MH):Option MO:=
 match ih c a h with
 |some ⟨.goto l,a',h'⟩=>match findLabel c l with
  |some c'=>match ih c' a' h' with
   |some ⟨.goto _,_,_⟩=>none
   |r=>r
  |none=>none
 |r=>r
noncomputable def UN(ops:Array Oper)(draw:Bool)(a:MA)(h:MH):Option MO:=
 match cond draw (match FP ops with|some l=>kQ E go ops l [] a h|none=>none) (cond (ops.toList.all xu) (zB E go ops ops.toList a h) none)with
 |some (a',h')=>some ⟨.normal,a',h'⟩
 |none=>none
noncomputable def Ls(l:Nat)(a:MA)(h:MH):Option MO:=
 match h.get l with
 |some (.loop L)=>match L.state with
  | .busy=>none
  |_=>match zD L.pending with
   |some e=>some ⟨e,a,h.set l (.loop {L with state:=.exhausted})⟩
   |none=>none
 |_=>none
noncomputable def UO(rd:Option Nat)(f:Operand)(ps:Array Tmp)(assign body:Code)(a:MA)(h:MH):Option MO:=
 match a.eval E.G f with
 |some (.fn g first captured)=>match E.ext g,Cm a ps.toList assign body rd h with
  |none,some (l,a',h')=>match go (.call g (first++[.dh l]++captured)) h' with
   |some (_,h'')=>Ls l a' h''
   |none=>none
  |_,_=>none
 |_=>none
noncomputable def uY(rd:Option Nat)(ih:Ih)(c:Code)(a:MA)(h:MH):Option MO:=
 match c with
 | .skip=>some ⟨.normal,a,h⟩
 | .label _=>some ⟨.normal,a,h⟩
 | .ret=>some ⟨.ret,a,h⟩
 | .exit id=>some ⟨.exit id,a,h⟩
 | .goto l=>some ⟨.goto l,a,h⟩
 | .seq x y=>UJ ih x y a h
 | .cond c x y=>UK E ih c x y a h
 | .block id c=>UL ih id c a h
 | .loop c=>FQ (ih c) 100000 a h
 | .scope c=>UM ih c a h
 | .region _ ops draw=>UN E go ops draw a h
 | .rangeFunc f ps assign body=>UO E go rd f ps assign body a h
 | .refuse _=>none
noncomputable def code(rd:Option Nat)(n:Nat):Code→MA→MH→Option MO:=
 Nat.rec (fun _ _ _=>none) (fun _ ih c a h=>uY E go rd ih c a h) n
end run
section top
variable (E:Env)
noncomputable def xy(l:List MV):Tr MV→Nat→Tr MV:=
 List.rec (fun t _=>t) (fun v _ ih t i=>ih (t.put i v) (Nat.succ i)) l
noncomputable def CB(ps:List Nat):Tr MV→List MV→Option (Tr MV):=
 List.rec (fun t vs=>List.rec (some t) (fun _ _ _=>none) vs) (fun p _ ih t vs=>List.rec none (fun v vs _=>ih (t.put p v) vs) vs) ps
noncomputable def qG(a:MA)(h:MH)(l:List ResultVar):Option (List MV):=
 List.rec (some []) (fun r _ ih=>
  match r with
  | .tmp t=>match a.tmps.get t,ih with|some v,some vs=>some (v::vs)|_,_=>none
  | .cell p t=>match dK E t,a.tmps.get p,ih with
   |some T,some (.ptr id off),some vs=>match BV T h id off with|some v=>some (v::vs)|none=>none
   |_,_,_=>none) l
noncomputable def zF(l:List Nat):MH→Option MH:=List.rec (fun h=>some h) (fun d _ ih h=>match h.get d with|some .pU=>cond (Nat.ble E.G.ro d) (ih (h.set d .dead)) none|_=>none) l
noncomputable def CE(F:Func)(a:MA)(h:MH):Option (MV×MH):=
 match zF E a.defs h with
 |none=>none
 |some h=>match qG E a h F.results.toList with
  |some [v]=>some (v,h)
  |some vs=>some (.bY vs,h)
  |none=>none
noncomputable def agS(F:Func):Option MO→Option (MV×MH)
 |some ⟨.normal,a,h⟩=>CE E F a h
 |some ⟨.ret,a,h⟩=>CE E F a h
 |_=>none
noncomputable def Lt(go:Task→MH→Option (MV×MH))(f:FuncId)(args:List MV)(h:MH):Option (MV×MH):=
 match E.fns.get f with
 |some F=>match F.body with
  |some body=>match E.jP f args h with
   |some r=>some r
   |none=>agS E F (code E go none 1000 body ⟨xy args .nil 0,Nat.max F.ntmps (dC args 0),[]⟩ h)
  |none=>none
 |none=>none
noncomputable def roundEnd(l:Nat):Option MO→Option (MV×MH)
 |some ⟨e,_,h⟩=>match h.get l with
  |some (.loop L)=>some (.bool (match e with | .normal=>true|_=>false),h.set l (.loop {L with state:=(match e with | .normal=>.ready|_=>.done),pending:=agR e}))
  |_=>none
 |none=>none
noncomputable def Lu(go:Task→MH→Option (MV×MH))(l:Nat)(body:Code)(a:MA)(h:MH):Option MO:=
 match h.get l with
 |some (.loop L)=>match L.state with
  | .ready=>code E go (some l) 1000 body a (h.set l (.loop {L with state:=.busy}))
  |_=>none
 |_=>none
noncomputable def LC(go:Task→MH→Option (MV×MH))(l:Nat)(args:List MV)(h:MH):Option (MV×MH):=
 match h.get l with
 |some (.loop L)=>match cond (and (Nat.ble E.G.ro l) (L.params.all fun p=>Nat.blt p L.nt)) (CB L.params L.tmps args) none with
  |some t=>match code E go (some l) 1000 L.assign ⟨t,L.nt,[]⟩ h with
   |some ⟨.normal,a,h⟩=>roundEnd l (Lu E go l L.body a h)
   |_=>none
  |none=>none
 |_=>none
noncomputable def UQ(go:Task→MH→Option (MV×MH)):Task→MH→Option (MV×MH)
 | .call f args,h=>Lt E go f args h
 | .round l args,h=>LC E go l args h
noncomputable def run(n:Nat):Task→MH→Option (MV×MH):=
 Nat.rec (fun _ _=>none) (fun _ ih t h=>UQ E ih t h) n
end top
end Go.aI
