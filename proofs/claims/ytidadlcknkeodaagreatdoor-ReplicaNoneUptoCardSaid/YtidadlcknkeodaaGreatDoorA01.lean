/- A part of the proof. -/
import Derived.WalkKit
import Derived.RangeFuncRecord
/- An evaluator for calls whose arguments are all known: the values, the heap, the operations. -/
namespace Go.Mini
/-! ### Stores -/
inductive Tr (α : Type) where
  | nil
  | node (l : Tr α) (a : Option α) (r : Tr α)
inductive Pth where
  | e
  | l (p : Pth)
  | r (p : Pth)
  deriving DecidableEq
noncomputable def pthF (n : Nat) : Nat → Pth :=
  Nat.rec (fun _ => .e) (fun _ ih k => Bool.rec (Bool.rec (.r (ih (Nat.div (Nat.sub k 1) 2))) (.l (ih (Nat.div (Nat.sub k 1) 2))) (Nat.beq (Nat.mod k 2) 1)) .e (Nat.beq k 0)) n
noncomputable def pth (k : Nat) : Pth := pthF (Nat.succ k) k
namespace Tr
variable {α : Type}
noncomputable def gP (p : Pth) : Tr α → Option α :=
  Pth.rec (fun t => Tr.rec none (fun _ a _ _ _ => a) t) (fun _ ih t => Tr.rec none (fun l _ _ _ _ => ih l) t) (fun _ ih t => Tr.rec none (fun _ _ r _ _ => ih r) t) p
noncomputable def sP (p : Pth) (v : α) : Tr α → Tr α :=
  Pth.rec (fun t => Tr.rec (.node .nil (some v) .nil) (fun l _ r _ _ => .node l (some v) r) t)
   (fun _ ih t => Tr.rec (.node (ih .nil) none .nil) (fun l a r _ _ => .node (ih l) a r) t)
   (fun _ ih t => Tr.rec (.node .nil none (ih .nil)) (fun l a r _ _ => .node l a (ih r)) t) p
noncomputable def get (t : Tr α) (k : Nat) : Option α := gP (pth k) t
noncomputable def put (t : Tr α) (k : Nat) (v : α) : Tr α := sP (pth k) v t
end Tr
/-! ### Values -/
inductive MV where
  | bool (b : Bool)
  | int (k : IntKind) (n : Int)
  | str (s : List Nat)
  | nilP
  | ptr (id off : Nat)
  | nilS
  | sl (id off len cap : Nat)
  | slo (id off l len : Nat)
  | sle (id offA offB l : Nat)
  | nilM
  | mp (id : Nat)
  | fn (f : FuncId) (first captured : List MV)
  | yld (id : Nat)
  | nilF
  | nilI
  | opq (id : Nat)
  | agg (cs : List MV)
  | tup (vs : List MV)
structure ME where
  key : MV
  val : MV
  born : Nat
structure ML where
  state : LoopState
  pending : Option Code
  tmps : Tr MV
  nt : Nat
  params : List Nat
  assign : Code
  body : Code
  defers : Nat
inductive MB where
  | cells (cs : List MV) (elem : TypeId) (es : Nat) (opn : Bool)
  | map (es : List ME) (clock : Nat)
  | iter (m : Option Nat) (since : Nat) (seen : List Nat) (stepped : Nat)
  | loop (l : ML)
  | defd
  | dead
structure MH where
  hp : Tr MB
  nx : Nat
structure MT where
  und : TypeDesc
  info : TypeInfo
inductive ExtK where
  | indexByteString
structure GB where
  ro : Nat
  g0 : Nat
structure Env where
  ty : Tr MT
  fns : Tr Func
  ext : FuncId → Option ExtK
  cmp : TypeId → Bool
  G : GB
  orc : FuncId → List MV → MH → Option (MV × MH)
  bo : BinOp → TypeId → MV → MV → Option MV
  co : TypeId → TypeId → MV → Option MV
def MV.cells : MV → List MV
  | .agg cs => cs
  | v => [v]
def one : MV → Bool
  | .agg _ => false
  | .tup _ => false
  | _ => true
def ones : List MV → Bool
  | [] => true
  | v :: vs => and (one v) (ones vs)
mutual
def ofV : Value → Option MV
  | .bool b => some (.bool b)
  | .int k n => some (.int k n)
  | .string s => some (.str (s.toList.map UInt8.toNat))
  | .pointer none => some .nilP
  | .slice none 0 0 => some .nilS
  | .map none => some .nilM
  | .nilFunc => some .nilF
  | .nilIface => some .nilI
  | .agg ⟨cs⟩ => match ofVs cs with | some l => cond (ones l) (some (.agg l)) none | none => none
  | .tuple ⟨vs⟩ => match ofVs vs with | some l => some (.tup l) | none => none
  | _ => none
def ofVs : List Value → Option (List MV)
  | [] => some []
  | v :: vs => match ofV v, ofVs vs with | some v, some vs => some (v :: vs) | _, _ => none
end
def undefM : MV := .tup []
structure MA where
  tmps : Tr MV
  nt : Nat
  defs : List Nat
noncomputable def MA.eval (G : GB) (a : MA) : Operand → Option MV
  | .tmp t => a.tmps.get t
  | .const v => ofV v
  | .global g => cond (Nat.blt g G.g0) (some (.ptr g 0)) none
  | .func f => some (.fn f [] [])
noncomputable def MA.put (a : MA) (dst : Option Tmp) (v : MV) : MA :=
  match dst with
  | none => a
  | some d => cond (Nat.blt d a.nt) { a with tmps := a.tmps.put d v } a
def pureV : Sem Value → Option MV
  | .pure v => ofV v
  | _ => none
inductive NewK where
  | ptr
  | sl (len cap : Nat)
  | mp
def NewK.at (id : Nat) : NewK → MV
  | .ptr => .ptr id 0
  | .sl len cap => .sl id 0 len cap
  | .mp => .mp id
inductive MR where
  | val (v : MV)
  | new (k : NewK) (b : MB)
  | upd (v : MV) (h : MH)
  | enter (f : FuncId) (args : List MV)
  | round (id : Nat) (args : List MV)
noncomputable def MH.new (h : MH) (b : MB) : MH := { hp := h.hp.put h.nx b, nx := Nat.succ h.nx }
noncomputable def MH.set (h : MH) (id : Nat) (b : MB) : MH := { h with hp := h.hp.put id b }
noncomputable def MH.get (h : MH) (id : Nat) : Option MB := h.hp.get id
noncomputable def lget {α : Type} (l : List α) : Nat → Option α :=
  List.rec (fun _ => none) (fun a _ ih n => Nat.rec (some a) (fun n _ => ih n) n) l
noncomputable def lset {α : Type} (l : List α) : Nat → α → List α :=
  List.rec (fun _ _ => []) (fun a l ih n v => Nat.rec (v :: l) (fun n _ => a :: ih n v) n) l
noncomputable def lover {α : Type} (vs : List α) : List α → List α :=
  List.rec (fun l => l) (fun v _ ih l => List.rec [] (fun _ l _ => v :: ih l) l) vs
noncomputable def lsets {α : Type} (n : Nat) (vs : List α) : List α → List α :=
  Nat.rec (fun l => lover vs l) (fun _ ih l => List.rec [] (fun a l _ => a :: ih l) l) n
noncomputable def ldrop {α : Type} (n : Nat) : List α → List α :=
  Nat.rec (fun l => l) (fun _ ih l => List.rec [] (fun _ l _ => ih l) l) n
noncomputable def ltake {α : Type} (n : Nat) : List α → Option (List α) :=
  Nat.rec (fun _ => some []) (fun _ ih l => List.rec none (fun a l _ => Option.rec none (fun r => some (a :: r)) (ih l)) l) n
noncomputable def llen {α : Type} (l : List α) : Nat → Nat := List.rec (fun n => n) (fun _ _ ih n => ih (Nat.succ n)) l
noncomputable def lrep {α : Type} (n : Nat) (l : List α) : List α := Nat.rec [] (fun _ ih => l ++ ih) n
noncomputable def ldel {α : Type} (l : List α) : Nat → List α :=
  List.rec (fun _ => []) (fun a l ih n => Nat.rec l (fun n _ => a :: ih n) n) l
section ops
variable (E : Env)
noncomputable def tyOf (t : TypeId) : Option MT := E.ty.get t
noncomputable def zeroV (T : MT) : Option MV := match T.info.zero with | some v => (match ofV v with | some m => cond (and (ones m.cells) (Nat.beq (llen m.cells 0) T.info.size)) (some m) none | none => none) | none => none
noncomputable def zeroM (T : MT) : Option (List MV) := match zeroV T with | some m => some m.cells | none => none
def aggT (T : MT) : Bool := match T.und with | .struct _ => true | .array _ _ => true | _ => false
noncomputable def fieldOf (T : MT) (i : Nat) : Option Field := match T.und with | .struct fs => lget fs.toList i | _ => none
noncomputable def readCells (h : MH) (id off n : Nat) : Option (List MV) :=
  match h.get id with
  | some (.cells cs _ _ _) => ltake n (ldrop off cs)
  | _ => none
noncomputable def partOf (T : MT) (cs : List MV) (off : Nat) : Option MV :=
  cond (aggT T) (match ltake T.info.size (ldrop off cs) with | some l => some (.agg l) | none => none) (lget cs off)
noncomputable def readAt (T : MT) (h : MH) (id off : Nat) : Option MV :=
  match h.get id with
  | some (.cells cs _ _ _) => partOf T cs off
  | _ => none
noncomputable def writeCells (h : MH) (id off : Nat) (vs : List MV) : Option MH :=
  cond (Nat.blt id E.G.ro) none
  (match h.get id with
  | some (.cells cs t es o) => cond (and (ones vs) (Nat.ble (Nat.add off (llen vs 0)) (llen cs 0))) (some (h.set id (.cells (lsets off vs cs) t es o))) none
  | _ => none)
def natOf : MV → Option Nat
  | .int _ (.ofNat n) => some n
  | _ => none
abbrev Ev := Operand → Option MV
noncomputable def mfill (place : Nat → Option (Nat × Nat)) (ev : Ev) (ps : List (Nat × Operand)) : List MV → Option (List MV) :=
  List.rec (fun cells => some cells) (fun p _ ih cells =>
    match place p.1, ev p.2 with
    | some (off, size), some v =>
      cond (and (ones v.cells) (and (Nat.beq (llen v.cells 0) size) (Nat.ble (Nat.add off size) (llen cells 0)))) (ih (lsets off v.cells cells)) none
    | _, _ => none) ps
noncomputable def evs (ev : Ev) (l : List Operand) : Option (List MV) :=
  List.rec (some []) (fun x _ ih => Option.rec none (fun v => Option.rec none (fun vs => some (v :: vs)) ih) (ev x)) l
noncomputable def bless (a : List Nat) : List Nat → Bool :=
  List.rec (fun b => List.rec false (fun _ _ _ => true) b) (fun x _ ih b => List.rec false (fun y b _ => or (Nat.blt x y) (and (Nat.beq x y) (ih b))) b) a
noncomputable def beqs (a : List Nat) : List Nat → Bool :=
  List.rec (fun b => List.rec true (fun _ _ _ => false) b) (fun x _ ih b => List.rec false (fun y b _ => and (Nat.beq x y) (ih b)) b) a
def isSl : MV → Bool
  | .sl .. => true
  | .slo .. => true
  | .sle .. => true
  | _ => false
def isFn : MV → Bool
  | .fn .. => true
  | .yld .. => true
  | _ => false
noncomputable def eqM (t : TypeDesc) (x y : MV) : Option Bool :=
  match t with
  | .bool => match x, y with | .bool a, .bool b => some (a == b) | _, _ => none
  | .int _ => match x, y with | .int k a, .int k' b => cond (decide (k = k')) (some (decide (a = b))) none | _, _ => none
  | .string => match x, y with | .str a, .str b => some (beqs a b) | _, _ => none
  | .pointer _ => match x, y with
    | .nilP, .nilP => some true
    | .nilP, .ptr .. => some false
    | .ptr .., .nilP => some false
    | _, _ => none
  | .slice _ => match x, y with
    | .nilS, .nilS => some true
    | .nilS, y => cond (isSl y) (some false) none
    | x, .nilS => cond (isSl x) (some false) none
    | _, _ => none
  | .map _ _ => match x, y with
    | .nilM, .nilM => some true
    | .nilM, .mp _ => some false
    | .mp _, .nilM => some false
    | _, _ => none
  | .func _ _ _ => match x, y with
    | .nilF, .nilF => some true
    | .nilF, y => cond (isFn y) (some false) none
    | x, .nilF => cond (isFn x) (some false) none
    | _, _ => none
  | _ => none
noncomputable def strOp (op : BinOp) (a b : List Nat) : Option MV :=
  match op with
  | .add => cond (Nat.ble (Nat.add (llen a 0) (llen b 0)) 1048576) (some (.str (a ++ b))) none
  | .eql => some (.bool (beqs a b))
  | .neq => some (.bool (not (beqs a b)))
  | .lss => some (.bool (bless a b))
  | .leq => some (.bool (or (bless a b) (beqs a b)))
  | .gtr => some (.bool (not (or (bless a b) (beqs a b))))
  | .geq => some (.bool (not (bless a b)))
  | _ => none
noncomputable def eqFields (fs : List Field) (xs ys : List MV) : Option Bool :=
  List.rec (some true) (fun f _ ih =>
    match tyOf E f.type with
    | some F => cond (or (aggT F) (decide (f.name = "_"))) none (match lget xs f.offset, lget ys f.offset with
      | some x, some y => match eqM F.und x y with
        | some true => ih
        | some false => some false
        | none => none
      | _, _ => none)
    | none => none) fs
def intOp (op : BinOp) (k : IntKind) (a : Int) (k' : IntKind) (b : Int) : Option MV := pureV (binOp op 0 (.int k a) (.int k' b))
def pairOk : MV → MV → Bool
  | .bool _, .bool _ => true
  | .nilP, .nilP => true
  | .nilP, .ptr .. => true
  | .ptr .., .nilP => true
  | .nilS, .nilS => true
  | .nilS, .sl .. => true
  | .nilS, .slo .. => true
  | .nilS, .sle .. => true
  | .sl .., .nilS => true
  | .slo .., .nilS => true
  | .sle .., .nilS => true
  | .nilM, .nilM => true
  | .nilM, .mp _ => true
  | .mp _, .nilM => true
  | .nilF, .nilF => true
  | .nilF, .fn .. => true
  | .nilF, .yld _ => true
  | .fn .., .nilF => true
  | .yld _, .nilF => true
  | _, _ => false
noncomputable def binM (op : BinOp) (t : TypeId) (x y : MV) : Option MV :=
  match x, y with
  | .int k a, .int k' b => intOp op k a k' b
  | .str a, .str b => strOp op a b
  | x, y => cond (pairOk x y) (match tyOf E t with
    | some T => match op with
      | .eql => match eqM T.und x y with | some b => some (.bool b) | none => none
      | .neq => match eqM T.und x y with | some b => some (.bool (not b)) | none => none
      | _ => none
    | none => none) none
noncomputable def bytesOf (l : List MV) : Option (List Nat) :=
  List.rec (some []) (fun v _ ih => match v with
    | .int .u8 (.ofNat n) => cond (Nat.blt n 256) (match ih with | some r => some (n :: r) | none => none) none
    | _ => none) l
noncomputable def ofBytes (l : List Nat) : List MV := List.rec [] (fun n _ ih => .int .u8 (.ofNat n) :: ih) l
noncomputable def sliceCells (es : Nat) (h : MH) : MV → Option (List MV)
  | .nilS => some []
  | .sle .. => some []
  | .sl id off len _ => readCells h id off (Nat.mul len es)
  | .slo id off _ len => readCells h id off (Nat.mul len es)
  | _ => none
noncomputable def lenM (h : MH) : MV → Option Nat
  | .str s => some (llen s 0)
  | .nilS => some 0
  | .sle .. => some 0
  | .sl _ _ n _ => some n
  | .slo _ _ _ n => some n
  | .nilM => some 0
  | .mp id => match h.get id with | some (.map es _) => some (llen es 0) | _ => none
  | _ => none
def isByte (T : MT) : Bool := match T.und with | .int .u8 => true | _ => false
noncomputable def markM (h : MH) : MV → Option MR
  | .sl id off len cap => match h.get id with
    | some (.cells cs t es o) => cond (Nat.ble E.G.ro id) (some (.upd (.sl id off len cap) (h.set id (.cells cs t es o)))) none
    | _ => none
  | _ => none
noncomputable def convM (src dst : TypeId) (x : MV) (h : MH) : Option MR :=
  match tyOf E src, tyOf E dst with
  | some S, some D =>
    match D.und, x with
    | .int k, .int _ n => match S.und with | .int _ => some (.val (.int k (k.wrap n))) | _ => none
    | .string, .str s => match S.und with | .string => some (.val (.str s)) | _ => none
    | .slice e, .str s => match S.und, tyOf E e with
      | .string, some T => cond (isByte T) (some (.upd (.slo h.nx 0 0 (llen s 0)) (h.new (.cells (ofBytes s) e 1 true)))) none
      | _, _ => none
    | .string, x => match S.und with
      | .slice e => match tyOf E e with
        | some T => cond (isByte T) (match sliceCells 1 h x with
          | some c => match bytesOf c with | some s => some (.val (.str s)) | none => none
          | none => none) none
        | none => none
      | _ => none
    | .slice e, x => match S.und, tyOf E e with
      | .slice _, some T => cond (and (Nat.beq src dst) (isByte T)) (markM E h x) none
      | _, _ => none
    | _, _ => none
  | _, _ => none
noncomputable def optNat (ev : Ev) : Option Operand → Option (Option Nat)
  | none => some none
  | some x => match ev x with | some v => (match natOf v with | some n => some (some n) | none => none) | none => none
def od (o : Option Nat) (n : Nat) : Nat := match o with | some m => m | none => n
noncomputable def cutS (id off cap es lo hi mx : Nat) : Option MR :=
  cond (and (Nat.ble lo hi) (and (Nat.ble hi mx) (Nat.ble mx cap)))
    (some (.val (.sl id (cond (Nat.beq mx lo) off (Nat.add off (Nat.mul lo es))) (Nat.sub hi lo) (Nat.sub mx lo)))) none
noncomputable def cutO (id off l len es lo hi : Nat) : Option MR :=
  cond (and (Nat.ble lo hi) (Nat.ble hi len))
    (some (.val (cond (or (Nat.blt lo hi) (Nat.beq lo 0)) (.slo id (Nat.add off (Nat.mul lo es)) (Nat.add l lo) (Nat.sub hi lo)) (.sle id off (Nat.add off (Nat.mul lo es)) (Nat.add l lo))))) none
noncomputable def sizeE (e : TypeId) : Option Nat := match tyOf E e with | some T => some T.info.size | none => none
noncomputable def sliceM (t : TypeId) (x : MV) (lo hi mx : Option Nat) : Option MR :=
  match tyOf E t with
  | none => none
  | some T =>
    match T.und, x with
    | .string, .str s => match mx with
      | some _ => none
      | none => cond (and (Nat.ble (od lo 0) (od hi (llen s 0))) (Nat.ble (od hi (llen s 0)) (llen s 0)))
        (match ltake (Nat.sub (od hi (llen s 0)) (od lo 0)) (ldrop (od lo 0) s) with | some s => some (.val (.str s)) | none => none) none
    | .slice e, .sl id off len cap => match sizeE E e with
      | some es => cutS id off cap es (od lo 0) (od hi len) (od mx cap)
      | none => none
    | .slice e, .slo id off l len => match sizeE E e with
      | some es => match mx with
        | some m => cutS id off len es (od lo 0) (od hi len) m
        | none => cutO id off l len es (od lo 0) (od hi len)
      | none => none
    | .slice e, .nilS => match sizeE E e with
      | some _ => cond (and (Nat.beq (od lo 0) 0) (and (Nat.beq (od hi 0) 0) (Nat.beq (od mx 0) 0))) (some (.val .nilS)) none
      | none => none
    | .slice e, .sle id a b l => match sizeE E e, mx with
      | some _, none => cond (and (Nat.beq (od lo 0) 0) (Nat.beq (od hi 0) 0)) (some (.val (.sle id a b l))) none
      | _, _ => none
    | .array n e, .ptr id off => match sizeE E e with
      | some es => cutS id off n es (od lo 0) (od hi n) (od mx n)
      | none => none
    | _, _ => none
noncomputable def appSrc (X : MT) (Te : MT) (h : MH) (x : MV) : Option (Nat × List MV) :=
  match X.und with
  | .int _ => match x, zeroM Te with
    | .int _ (.ofNat n), some z => cond (Nat.ble n 1048576) (some (n, lrep n z)) none
    | _, _ => none
  | _ => match x with
    | .str b => cond (Nat.beq Te.info.size 1) (some (llen b 0, ofBytes b)) none
    | x => match lenM h x, sliceCells Te.info.size h x with | some n, some c => some (n, c) | _, _ => none
noncomputable def appFresh (e : TypeId) (es len n : Nat) (cs : List MV) (h : MH) : Option (MV × MH) :=
  cond (Nat.ble (Nat.add len n) 1048576) (some ((.slo h.nx 0 0 (Nat.add len n)), (h.new (.cells cs e es true)))) none
noncomputable def appTo (e : TypeId) (es : Nat) (s : MV) (n : Nat) (c : List MV) (h : MH) : Option (MV × MH) :=
  match s with
  | .nilS => cond (Nat.beq n 0) (some (.nilS, h)) (appFresh e es 0 n c h)
  | .sl id off len cap => cond (Nat.ble (Nat.add len n) cap)
    (match writeCells E h id (Nat.add off (Nat.mul len es)) c with | some h => some ((.sl id off (Nat.add len n) cap), h) | none => none)
    (match readCells h id off (Nat.mul len es) with | some old => appFresh e es len n (old ++ c) h | none => none)
  | .slo id off l len => cond (Nat.beq n 0) (some ((.slo id off l len), h))
    (match h.get id with
    | some (.cells cs t' es' true) => cond (and (Nat.ble E.G.ro id) (and (Nat.beq es' es) (and (Nat.beq off (Nat.mul l es)) (Nat.beq t' e)))) (match ltake (Nat.mul len es) (ldrop off cs) with
      | some old => appFresh e es len n (old ++ c) (h.set id .dead)
      | none => none) none
    | _ => none)
  | _ => none
noncomputable def appendM (argTypes : List TypeId) (s x : MV) (h : MH) : Option (MV × MH) :=
  match lget argTypes 0, lget argTypes 1 with
  | some st, some xt => match tyOf E st, tyOf E xt with
    | some S, some X => match S.und with
      | .slice e => match tyOf E e with
        | none => none
        | some Te => cond (and (Nat.blt 0 Te.info.size) (Nat.ble Te.info.bytes 65536)) (match appSrc X Te h x, zeroM Te with
          | some (n, c), some _ => appTo E e Te.info.size s n c h
          | _, _ => none) none
      | _ => none
    | _, _ => none
  | _, _ => none
def minN (a b : Nat) : Nat := cond (Nat.ble a b) a b
noncomputable def copySrc (es n : Nat) (h : MH) (x : MV) : Option (List MV) :=
  match x with
  | .str b => match ltake n b with | some l => some (ofBytes l) | none => none
  | x => match sliceCells es h x with | some c => ltake (Nat.mul n es) c | none => none
noncomputable def copyTo (d : MV) (n : Nat) (c : List MV) (h : MH) : Option (MV × MH) :=
  match d with
  | .sl id off _ _ => match writeCells E h id off c with | some h => some ((.int .i64 (.ofNat n)), h) | none => none
  | .slo id off _ _ => match writeCells E h id off c with | some h => some ((.int .i64 (.ofNat n)), h) | none => none
  | .nilS => some ((.int .i64 0), h)
  | _ => none
noncomputable def copyM (argTypes : List TypeId) (d x : MV) (h : MH) : Option (MV × MH) :=
  match lget argTypes 0 with
  | some dt => match tyOf E dt with
    | some D => match D.und with
      | .slice e => match sizeE E e, lenM h d, lenM h x with
        | some es, some dl, some xl => match copySrc es (minN xl dl) h x with
          | some c => copyTo E d (minN xl dl) c h
          | none => none
        | _, _, _ => none
      | _ => none
    | none => none
  | none => none
noncomputable def mfind (T : TypeDesc) (k : MV) (l : List ME) : Nat → Option (Option (Nat × ME)) :=
  List.rec (fun _ => some none) (fun e _ ih i => match eqM T k e.key with
    | some true => some (some (i, e))
    | some false => ih (Nat.succ i)
    | none => none) l
def keyT : TypeDesc → Bool
  | .bool => true
  | .string => true
  | .int _ => true
  | _ => false
noncomputable def mapOf (h : MH) : MV → Option (List ME × Nat)
  | .nilM => some ([], 0)
  | .mp id => match h.get id with | some (.map es c) => some (es, c) | _ => none
  | _ => none
noncomputable def keyDesc (t : TypeId) : Option (TypeDesc × TypeId) :=
  match tyOf E t with
  | some T => match T.und with
    | .map kt el => match tyOf E kt with | some K => cond (keyT K.und) (some (K.und, el)) none | none => none
    | _ => none
  | none => none
def found (ok : Bool) (v : MV) (b : Bool) : MV := cond ok (.tup [v, .bool b]) v
noncomputable def lookupM (t : TypeId) (m k : MV) (ok : Bool) (h : MH) : Option MR :=
  match keyDesc E t, mapOf h m with
  | some (K, el), some (es, _) => match mfind K k es 0 with
    | some (some (_, e)) => some (.val (found ok e.val true))
    | some none => match tyOf E el with
      | some Te => match zeroV Te with
        | some z => some (.val (found ok z false))
        | none => none
      | none => none
    | none => none
  | _, _ => none
noncomputable def updateM (t : TypeId) (m k v : MV) (h : MH) : Option (MV × MH) :=
  match keyDesc E t, m with
  | some (K, _), .mp id => match h.get id with
    | some (.map es c) => cond (Nat.ble E.G.ro id) (match mfind K k es 0 with
      | some (some (i, e)) => some (undefM, (h.set id (.map (lset es i { e with key := k, val := v }) c)))
      | some none => some (undefM, (h.set id (.map (es ++ [⟨k, v, c⟩]) (Nat.succ c))))
      | none => none) none
    | _ => none
  | _, _ => none
noncomputable def deleteM (t : TypeId) (m k : MV) (h : MH) : Option (MV × MH) :=
  match keyDesc E t, m with
  | some (K, _), .mp id => match h.get id with
    | some (.map es c) => cond (Nat.ble E.G.ro id) (match mfind K k es 0 with
      | some (some (i, _)) => some (undefM, (h.set id (.map (ldel es i) c)))
      | some none => some (undefM, h)
      | none => none) none
    | _ => none
  | _, _ => none
noncomputable def notIn (n : Nat) (l : List Nat) : Bool := List.rec true (fun m _ ih => Bool.rec ih false (Nat.beq n m)) l
noncomputable def leftOf (seen : List Nat) (l : List ME) : List ME := List.rec [] (fun e _ ih => Bool.rec ih (e :: ih) (notIn e.born seen)) l
noncomputable def nextIter (r m since : Nat) (seen : List Nat) (last : Nat) (es : List ME) (clock : Nat) (h : MH) : Option (MV × MH) :=
  cond (and (not seen.isEmpty) (and (not es.isEmpty) (es.all fun e => Nat.ble last e.born))) none
    (match leftOf seen es with
     | [] => some ((.tup [.bool false]), h)
     | [e] => cond (Nat.blt e.born since) (some ((.tup [.bool true, e.key, e.val]), (h.set r (.iter (some m) since (seen ++ [e.born]) clock)))) none
     | _ => none)
noncomputable def nextM (it : MV) (isString : Bool) (h : MH) : Option (MV × MH) :=
  match it with
  | .ptr r 0 => cond (or isString (Nat.blt r E.G.ro)) none (match h.get r with
    | some (.iter none _ _ _) => some ((.tup [.bool false]), h)
    | some (.iter (some m) since seen last) => match h.get m with
      | some (.map es clock) => nextIter r m since seen last es clock h
      | _ => none
    | _ => none)
  | _ => none
noncomputable def bornIs (s : Nat) (l : List ME) : Option ME := List.rec none (fun e _ ih => Bool.rec ih (some e) (Nat.beq e.born s)) l
noncomputable def lastN (l : List Nat) : Option Nat := List.rec none (fun n _ ih => Option.rec (some n) (fun m => some m) ih) l
noncomputable def entryM (it : MV) (h : MH) : Option MV :=
  match it with
  | .ptr r 0 => match h.get r with
    | some (.iter (some m) _ seen stepped) => match h.get m with
      | some (.map es clock) => cond (Nat.beq clock stepped) (match lastN seen with
        | some s => match bornIs s es with | some e => some (.tup [e.key, e.val]) | none => none
        | none => none) none
      | _ => none
    | _ => none
  | _ => none
noncomputable def rangeM (t : TypeId) (x : MV) (h : MH) : Option (MV × MH) :=
  match tyOf E t with
  | some T => match T.und, x with
    | .map _ _, .nilM => some ((.ptr h.nx 0), (h.new (.iter none 0 [] 0)))
    | .map _ _, .mp id => match h.get id with | some (.map _ c) => some ((.ptr h.nx 0), (h.new (.iter (some id) c [] c))) | _ => none
    | _, _ => none
  | none => none
def min2M : MV → MV → Option MV
  | .int k a, .int _ b => some (.int k (if b < a then b else a))
  | _, _ => none
def max2M : MV → MV → Option MV
  | .int k a, .int _ b => some (.int k (if b > a then b else a))
  | _, _ => none
noncomputable def lenB (t : TypeId) (x : MV) (h : MH) : Option MR :=
  match tyOf E t with
  | some T => match T.und with
    | .array n _ => some (.val (.int .i64 (.ofNat n)))
    | .pointer a => match tyOf E a with
      | some Ta => match Ta.und with | .array n _ => some (.val (.int .i64 (.ofNat n))) | _ => none
      | none => none
    | .string => match x with | .str s => some (.val (.int .i64 (.ofNat (llen s 0)))) | _ => none
    | .slice _ => match x with
      | .str _ => none
      | .nilM => none
      | .mp _ => none
      | x => match lenM h x with | some n => some (.val (.int .i64 (.ofNat n))) | none => none
    | .map _ _ => match mapOf h x with | some (es, _) => some (.val (.int .i64 (.ofNat (llen es 0)))) | none => none
    | _ => none
  | none => none
noncomputable def capB (t : TypeId) (x : MV) : Option MR :=
  match tyOf E t with
  | some T => match T.und, x with
    | .slice _, .sl _ _ _ c => some (.val (.int .i64 (.ofNat c)))
    | .slice _, .nilS => some (.val (.int .i64 0))
    | _, _ => none
  | none => none
def updR : Option (MV × MH) → Option MR
  | some (v, h) => some (.upd v h)
  | none => none
def newR : Option (NewK × MB) → Option MR
  | some (k, b) => some (.new k b)
  | none => none
def vR : Option MV → Option MR
  | some v => some (.val v)
  | none => none
noncomputable def builtinM (b : Builtin) (argTypes : List TypeId) (args : List MV) (h : MH) : Option MR :=
  match args with
  | [x] => match b, lget argTypes 0 with
    | .len, some t => lenB E t x h
    | .cap, some t => capB E t x
    | _, _ => none
  | [x, y] => match b with
    | .append => updR (appendM E argTypes x y h)
    | .copy => updR (copyM E argTypes x y h)
    | .delete => match lget argTypes 0 with | some t => updR (deleteM E t x y h) | none => none
    | .min => vR (min2M x y)
    | .max => vR (max2M x y)
    | _ => none
  | _ => none
noncomputable def idxByte (l : List Nat) (c : Nat) : Nat → Int :=
  List.rec (fun _ => -1) (fun b _ ih i => Bool.rec (ih (Nat.succ i)) (.ofNat i) (Nat.beq b c)) l
noncomputable def extM (k : ExtK) (args : List MV) : Option MR :=
  match k, args with
  | .indexByteString, [.str s, .int .u8 (.ofNat c)] => cond (Nat.blt c 256) (some (.val (.int .i64 (idxByte s c 0)))) none
  | _, _ => none
noncomputable def callF (f : FuncId) (args : List MV) : Option MR :=
  match E.ext f with
  | some k => extM k args
  | none => some (.enter f args)
noncomputable def callV (f : MV) (args : List MV) : Option MR :=
  match f with
  | .fn f a b => callF E f (a ++ args ++ b)
  | .yld l => some (.round l args)
  | _ => none
noncomputable def oCall (ev : Ev) (c : Call) (h : MH) : Option MR :=
  match evs ev c.args.toList with
  | none => none
  | some args => match c.callee with
    | .builtin b => builtinM E b c.argTypes.toList args h
    | .value f => match ev f with | some f => callV E f args | none => none
    | .invoke .. => none
noncomputable def oPick (ev : Ev) (c a b : Operand) : Option MR :=
  match ev c with | some (.bool t) => vR (cond t (ev a) (ev b)) | _ => none
noncomputable def newCells (k : NewK) (cs : List MV) (t : TypeId) (T : MT) : NewK × MB := (k, .cells cs t T.info.size false)
noncomputable def oAlloc (t : TypeId) : Option (NewK × MB) :=
  match tyOf E t with | some T => (match zeroM T with | some z => some (newCells .ptr z t T) | none => none) | none => none
noncomputable def oBox (ev : Ev) (t : TypeId) (x : Operand) : Option (NewK × MB) :=
  match tyOf E t, ev x with | some T, some v => cond (ones v.cells) (some (newCells .ptr v.cells t T)) none | _, _ => none
noncomputable def placesS (fs : List Field) : Option (List (Nat × Nat)) :=
  List.rec (some []) (fun f _ ih => match sizeE E f.type, ih with | some n, some l => some ((f.offset, n) :: l) | _, _ => none) fs
def placeA (n : Nat) (i : Nat) : Option (Nat × Nat) := some (Nat.mul i n, n)
def aggR : Option (List MV) → Option MR | some c => some (.val (.agg c)) | none => none
noncomputable def oBuild (ev : Ev) (t : TypeId) (parts : Array (Nat × Operand)) : Option MR :=
  match tyOf E t with
  | none => none
  | some T => match zeroM T, T.und with
    | some z, .struct fs => match placesS E fs.toList with
      | some ps => aggR (mfill (lget ps) ev parts.toList z)
      | none => none
    | some z, .array _ e => match sizeE E e with
      | some es => aggR (mfill (placeA es) ev parts.toList z)
      | none => none
    | _, _ => none
noncomputable def oBuildSlice (ev : Ev) (t : TypeId) (len : Nat) (parts : Array (Nat × Operand)) : Option (NewK × MB) :=
  match tyOf E t with
  | none => none
  | some T => match T.und with
    | .slice e => match tyOf E e with
      | none => none
      | some Te => match zeroM Te with
        | none => none
        | some z => cond (Nat.ble (Nat.mul len Te.info.size) 65536) (match mfill (placeA Te.info.size) ev parts.toList (lrep len z) with
          | some c => some (newCells (.sl len len) c e Te)
          | none => none) none
    | _ => none
noncomputable def oLoad (ev : Ev) (t : TypeId) (x : Operand) (h : MH) : Option MR :=
  match tyOf E t, ev x with
  | some T, some (.ptr id off) => vR (readAt T h id off)
  | _, _ => none
noncomputable def oStore (ev : Ev) (t : TypeId) (x v : Operand) (h : MH) : Option (MV × MH) :=
  match tyOf E t, ev x, ev v with
  | some T, some (.ptr id off), some v => cond (Nat.beq (llen v.cells 0) T.info.size) (match writeCells E h id off v.cells with | some h => some (undefM, h) | none => none) none
  | _, _, _ => none
noncomputable def oNilCheck (ev : Ev) (x : Operand) : Option MR :=
  match ev x with
  | some (.ptr id off) => some (.val (.ptr id off))
  | some (.fn f a b) => some (.val (.fn f a b))
  | some (.yld l) => some (.val (.yld l))
  | some (.mp id) => some (.val (.mp id))
  | _ => none
def isConst : Operand → Bool
  | .const _ => true
  | _ => false
noncomputable def oBin0 (ev : Ev) (op : BinOp) (t : TypeId) (x y : Operand) : Option MR :=
  match ev x, ev y with
  | some (.agg a), some (.agg b) => match tyOf E t with
    | some T => match T.und, op with
      | .struct fs, .eql => cond (E.cmp t) (match eqFields E fs.toList a b with | some r => some (.val (.bool r)) | none => none) none
      | .struct fs, .neq => cond (E.cmp t) (match eqFields E fs.toList a b with | some r => some (.val (.bool (not r))) | none => none) none
      | _, _ => none
    | none => none
  | some .nilI, some .nilI => cond (or (isConst x) (isConst y)) (match tyOf E t with
    | some T => match T.und, op with
      | .interface _, .eql => some (.val (.bool true))
      | .interface _, .neq => some (.val (.bool false))
      | _, _ => none
    | none => none) none
  | some x, some y => vR (binM E op t x y)
  | _, _ => none
noncomputable def oSym (ev : Ev) (op : BinOp) (t : TypeId) (x y : Operand) : Option MV :=
  match ev x, ev y with | some a, some b => E.bo op t a b | _, _ => none
noncomputable def oBin (ev : Ev) (op : BinOp) (t : TypeId) (x y : Operand) : Option MR :=
  match oSym E ev op t x y with | some v => some (.val v) | none => oBin0 E ev op t x y
noncomputable def oUn (ev : Ev) (op : UnOp) (x : Operand) : Option MR :=
  match ev x with
  | some (.bool b) => match op with | .not => some (.val (.bool (not b))) | _ => none
  | some (.int k n) => vR (pureV (Op.unary op (.int k n)))
  | _ => none
noncomputable def oConv (ev : Ev) (s d : TypeId) (x : Operand) (h : MH) : Option MR := match ev x with | some x => (match E.co s d x with | some v => some (.val v) | none => convM E s d x h) | none => none
noncomputable def oMakeFunc (ev : Ev) (fn : Fn) (first captured : Array Operand) : Option MR :=
  match fn, evs ev first.toList, evs ev captured.toList with
  | .func f, some a, some b => some (.val (.fn f a b))
  | _, _, _ => none
noncomputable def oMakeMap (ev : Ev) (t : TypeId) (r : Option Operand) : Option (NewK × MB) :=
  match r with
  | none => some (.mp, .map [] 0)
  | some x => match ev x, keyDesc E t with | some (.int ..), some _ => some (.mp, .map [] 0) | _, _ => none
noncomputable def evN (ev : Ev) (x : Operand) : Option Nat := match ev x with | some v => natOf v | none => none
noncomputable def oMakeSlice (ev : Ev) (t : TypeId) (l c : Operand) : Option (NewK × MB) :=
  match tyOf E t, evN ev l, evN ev c with
  | some T, some l, some c => match T.und with
    | .slice e => match tyOf E e with
      | some Te => match zeroM Te with
        | some z => cond (and (Nat.ble l c) (and (Nat.ble c 1048576) (Nat.ble Te.info.bytes 65536))) (some (newCells (.sl l c) (lrep c z) e Te)) none
        | none => none
      | none => none
    | _ => none
  | _, _, _ => none
noncomputable def oSlice (ev : Ev) (t : TypeId) (x : Operand) (lo hi mx : Option Operand) : Option MR :=
  match ev x, optNat ev lo, optNat ev hi, optNat ev mx with
  | some x, some lo, some hi, some mx => match hi, mx with
    | none, some _ => none
    | _, _ => sliceM E t x lo hi mx
  | _, _, _, _ => none
noncomputable def oFieldAddr (ev : Ev) (t : TypeId) (x : Operand) (f : Nat) : Option MR :=
  match tyOf E t, ev x with
  | some T, some (.ptr id off) => match fieldOf T f with
    | some F => match sizeE E F.type with
      | some n => cond (Nat.beq n 0) none (some (.val (.ptr id (Nat.add off F.offset))))
      | none => none
    | none => none
  | _, _ => none
noncomputable def oField (ev : Ev) (t : TypeId) (x : Operand) (f : Nat) : Option MR :=
  match tyOf E t, ev x with
  | some T, some (.agg cs) => match fieldOf T f with
    | some F => match tyOf E F.type with | some FT => vR (partOf FT cs F.offset) | none => none
    | none => none
  | _, _ => none
noncomputable def elemPtr (e : TypeId) (id off len i : Nat) : Option MR :=
  match sizeE E e with
  | some n => cond (Nat.blt i len) (some (.val (.ptr id (Nat.add off (Nat.mul i n))))) none
  | none => none
noncomputable def oIndexAddr (ev : Ev) (t : TypeId) (x i : Operand) : Option MR :=
  match tyOf E t, ev x, evN ev i with
  | some T, some x, some i => match T.und, x with
    | .array n e, .ptr id off => elemPtr E e id off n i
    | .slice e, .sl id off len _ => elemPtr E e id off len i
    | .slice e, .slo id off _ len => elemPtr E e id off len i
    | _, _ => none
  | _, _, _ => none
noncomputable def oIndex (ev : Ev) (t : TypeId) (x i : Operand) : Option MR :=
  match tyOf E t, ev x, evN ev i with
  | some T, some x, some i => match T.und, x with
    | .array n e, .agg cs => match tyOf E e with
      | some Te => cond (Nat.blt i n) (vR (partOf Te cs (Nat.mul i Te.info.size))) none
      | none => none
    | .string, .str s => match lget s i with | some b => some (.val (.int .u8 (.ofNat b))) | none => none
    | _, _ => none
  | _, _, _ => none
noncomputable def oLookup (ev : Ev) (t : TypeId) (m k : Operand) (ok : Bool) (h : MH) : Option MR :=
  match ev m, ev k with | some m, some k => lookupM E t m k ok h | _, _ => none
noncomputable def oUpdate (ev : Ev) (t : TypeId) (m k v : Operand) (h : MH) : Option (MV × MH) :=
  match ev m, ev k, ev v with | some m, some k, some v => updateM E t m k v h | _, _, _ => none
noncomputable def oRange (ev : Ev) (t : TypeId) (x : Operand) (h : MH) : Option (MV × MH) := match ev x with | some x => rangeM E t x h | none => none
noncomputable def oNext (ev : Ev) (it : Operand) (s : Bool) (h : MH) : Option (MV × MH) := match ev it with | some it => nextM E it s h | none => none
noncomputable def oExtract (ev : Ev) (t : Operand) (i : Nat) : Option MR := match ev t with | some (.tup vs) => vR (lget vs i) | _ => none
noncomputable def oEntry (ev : Ev) (it : Operand) (h : MH) : Option MV := match ev it with | some it => entryM it h | none => none
noncomputable def mop (ev : Ev) (o : Op) (h : MH) : Option MR :=
  match o with
  | .move x => vR (ev x)
  | .assign x => vR (ev x)
  | .pick c a b => oPick ev c a b
  | .alloc t => newR (oAlloc E t)
  | .box t x => newR (oBox E ev t x)
  | .build t parts => oBuild E ev t parts
  | .buildSlice t len parts => newR (oBuildSlice E ev t len parts)
  | .load t x => oLoad E ev t x h
  | .store t x v => updR (oStore E ev t x v h)
  | .nilCheck x => oNilCheck ev x
  | .binOp op t x y _ => oBin E ev op t x y
  | .unOp op _ x => oUn ev op x
  | .convert s d x => oConv E ev s d x h
  | .makeFunc fn first captured => oMakeFunc ev fn first captured
  | .makeMap t r => newR (oMakeMap E ev t r)
  | .makeSlice t l c => newR (oMakeSlice E ev t l c)
  | .slice t x lo hi mx => oSlice E ev t x lo hi mx
  | .fieldAddr t x f => oFieldAddr E ev t x f
  | .field t x f => oField E ev t x f
  | .indexAddr t x i => oIndexAddr E ev t x i
  | .index t x i => oIndex E ev t x i
  | .lookup t m k ok => oLookup E ev t m k ok h
  | .mapUpdate t m k v => updR (oUpdate E ev t m k v h)
  | .insert t m k v => updR (oUpdate E ev t m k v h)
  | .range t x => updR (oRange E ev t x h)
  | .next it s => updR (oNext E ev it s h)
  | .entry it => vR (oEntry ev it h)
  | .extract t i => oExtract ev t i
  | .call c => oCall E ev c h
  | _ => none
end ops
end Go.Mini
/- An evaluator for calls whose arguments are all known: regions, code, calls. -/
namespace Go.Mini
/-! ### Equality of values and blocks (false where they cannot be compared) -/
def eqNs : List Nat → List Nat → Bool
  | [], [] => true
  | a :: x, b :: y => and (Nat.beq a b) (eqNs x y)
  | _, _ => false
mutual
def eqv : MV → MV → Bool
  | .bool a, .bool b => a == b
  | .int k a, .int k' b => and (decide (k = k')) (decide (a = b))
  | .str a, .str b => eqNs a b
  | .nilP, .nilP => true
  | .ptr a b, .ptr c d => and (Nat.beq a c) (Nat.beq b d)
  | .nilS, .nilS => true
  | .sl a b c d, .sl a' b' c' d' => and (and (Nat.beq a a') (Nat.beq b b')) (and (Nat.beq c c') (Nat.beq d d'))
  | .slo a b c d, .slo a' b' c' d' => and (and (Nat.beq a a') (Nat.beq b b')) (and (Nat.beq c c') (Nat.beq d d'))
  | .sle a b c d, .sle a' b' c' d' => and (and (Nat.beq a a') (Nat.beq b b')) (and (Nat.beq c c') (Nat.beq d d'))
  | .yld a, .yld b => Nat.beq a b
  | .nilM, .nilM => true
  | .mp a, .mp b => Nat.beq a b
  | .nilF, .nilF => true
  | .nilI, .nilI => true
  | .fn f a b, .fn g c d => and (Nat.beq f g) (and (eqvs a c) (eqvs b d))
  | .opq a, .opq b => Nat.beq a b
  | .agg a, .agg b => eqvs a b
  | .tup a, .tup b => eqvs a b
  | _, _ => false
def eqvs : List MV → List MV → Bool
  | [], [] => true
  | a :: x, b :: y => and (eqv a b) (eqvs x y)
  | _, _ => false
end
def eqB : MB → MB → Bool
  | .cells a t e o, .cells b t' e' o' => and (eqvs a b) (and (and (Nat.beq t t') (Nat.beq e e')) (o == o'))
  | .map [] c, .map [] c' => Nat.beq c c'
  | _, _ => false
inductive MX where
  | normal
  | exit (id : Nat)
  | goto (l : Nat)
  | ret
structure MO where
  e : MX
  a : MA
  h : MH
inductive Task where
  | call (f : FuncId) (args : List MV)
  | round (id : Nat) (args : List MV)
/-! ### The order in which a drawn region is run: what may float comes as early as it may -/
structure PE where
  i : Nat
  o : Oper
  pre : Nat
def floats (o : Oper) : Bool :=
  match o.op with
  | .move _ | .pick .. | .load .. | .binOp .. | .unOp .. | .makeFunc .. | .slice .. | .fieldAddr .. | .field .. | .indexAddr .. | .index .. | .lookup .. | .extract .. | .build .. | .nilCheck _
  | .convert .. | .alloc _ | .box .. | .buildSlice .. | .makeSlice .. | .makeMap .. => true
  | .call { callee := .builtin b, .. } => match b with | .len | .cap | .min | .max => true | _ => false
  | _ => false
noncomputable def preOf (ms : List Nat) (es : List Edge) : Nat :=
  List.rec 0 (fun e _ ih => Bool.rec ih (Nat.lor ih (Nat.lor (Nat.shiftLeft 1 e.on) (match lget ms e.on with | some m => m | none => 0))) (Region.binds .any e)) es
noncomputable def pes (l : List Oper) : Nat → List Nat → List PE :=
  List.rec (fun _ _ => []) (fun o _ ih i ms => ⟨i, o, preOf ms o.after.toList⟩ :: ih (Nat.succ i) (ms ++ [preOf ms o.after.toList])) l
noncomputable def anyIn (m : Nat) (l : List PE) : Bool := List.rec false (fun p _ ih => Bool.rec ih true (Nat.testBit m p.i)) l
noncomputable def insP (p : PE) (l : List PE) : List PE := List.rec [p] (fun q l ih => Bool.rec (p :: q :: l) (q :: ih) (anyIn p.pre (q :: l))) l
noncomputable def orderP (l : List PE) : List PE → List PE :=
  List.rec (fun acc => acc) (fun p _ ih acc => ih (Bool.rec (acc ++ [p]) (insP p acc) (floats p.o))) l
def dstIn (d : Option Tmp) (l : List Tmp) : Bool := match d with | some t => l.any (Nat.beq t) | none => false
def sameDst (a b : Option Tmp) : Bool := match a, b with | some x, some y => Nat.beq x y | _, _ => false
def sepB (ops : Array Oper) (p q : PE) : Bool :=
  or (and (Nat.testBit q.pre p.i) (not (floats q.o)))
    (and (and (not (dstIn q.o.dst (p.o.looksAt ops))) (not (sameDst p.o.dst q.o.dst))) (or (Nat.testBit q.pre p.i) (and (floats p.o) (not (dstIn p.o.dst (q.o.looksAt ops))))))
def noSel (o : Oper) : Bool := match o.op with | .select .. => false | .defer _ => false | _ => true
def backB (p : PE) : Bool := p.o.after.toList.all fun e => or (not (Region.binds .any e)) (Nat.blt e.on p.i)
def okPi (ops : Array Oper) : List PE → Bool
  | [] => true
  | p :: l => and (and (noSel p.o) (and (not (dstIn p.o.dst (p.o.looksAt ops))) (backB p))) (and (l.all (sepB ops p)) (okPi ops l))
noncomputable def planP (ops : Array Oper) : Option (List PE) :=
  cond (okPi ops (orderP (pes ops.toList 0 []) [])) (some (orderP (pes ops.toList 0 []) [])) none
inductive FR where
  | skip
  | look (v : MV)
  | alc (id : Nat) (k : NewK) (b : MB)
structure FL where
  p : PE
  r : FR
section run
variable (E : Env) (go : Task → MH → Option (MV × MH))
noncomputable def yieldedM (ops : Array Oper) (a : MA) (j : Nat) : Option Bool :=
  match lget ops.toList j with
  | some o => match o.dst with
    | some d => match a.tmps.get d with | some (.bool b) => some b | _ => none
    | none => none
  | none => none
noncomputable def wantedM (ops : Array Oper) (a : MA) (o : Oper) : Option Bool :=
  match o.guard with
  | none => some true
  | some (j, b) => match lget ops.toList j with
    | some g => match g.dst with
      | some d => match a.tmps.get d with
        | some (.bool c) => some (c == b)
        | some (.tup _) => some false
        | _ => none
      | none => none
    | none => none
noncomputable def opRes (h : MH) : Option MR → Option (MV × MH)
  | some (.val v) => some (v, h)
  | some (.new k b) => some (k.at h.nx, h.new b)
  | some (.upd v h') => some (v, h')
  | some (.enter f args) => go (.call f args) h
  | some (.round l args) => go (.round l args) h
  | none => none
noncomputable def runOps (ops : Array Oper) (l : List Oper) : MA → MH → Option (MA × MH) :=
  List.rec (fun a h => some (a, h)) (fun o _ ih a h =>
    match wantedM ops a o with
    | some true => match opRes go h (mop E (a.eval E.G) o.op h) with
      | some (v, h') => ih (a.put o.dst v) h'
      | none => none
    | some false => ih (a.put o.dst undefM) h
    | none => none) l
noncomputable def stillOk (ev : Ev) (h : MH) (m : Nat) (f : FL) : Bool :=
  Bool.rec (match f.r with
    | .skip => true
    | .look v => match mop E ev f.p.o.op h with | some (.val u) => eqv u v | _ => false
    | .alc id _ b => match h.get id with | some c => eqB c b | none => false) true (Nat.testBit m f.p.i)
noncomputable def allOk (ev : Ev) (h : MH) (m : Nat) (fl : List FL) : Bool :=
  List.rec true (fun f _ ih => Bool.rec false ih (stillOk E ev h m f)) fl
noncomputable def keepFl (m : Nat) (fl : List FL) : List FL :=
  List.rec [] (fun f _ ih => Bool.rec (f :: ih) ih (Nat.testBit m f.p.i)) fl
noncomputable def runPi (ops : Array Oper) (l : List PE) : List FL → MA → MH → Option (MA × MH) :=
  List.rec (fun _ a h => some (a, h)) (fun p _ ih fl a h =>
    match wantedM ops a p.o with
    | some true => Bool.rec
        (match opRes go h (mop E (a.eval E.G) p.o.op h) with
          | some (v, h') => Bool.rec none (ih (keepFl p.pre fl) (a.put p.o.dst v) h') (allOk E ((a.put p.o.dst v).eval E.G) h' p.pre fl)
          | none => none)
        (match mop E (a.eval E.G) p.o.op h with
          | some (.val v) => ih (⟨p, .look v⟩ :: fl) (a.put p.o.dst v) h
          | some (.new k b) => Bool.rec none (ih (⟨p, .alc h.nx k b⟩ :: fl) (a.put p.o.dst (k.at h.nx)) (h.new b)) (allOk E ((a.put p.o.dst (k.at h.nx)).eval E.G) (h.new b) 0 fl)
          | _ => none)
        (floats p.o)
    | some false => Bool.rec (ih (keepFl p.pre fl) (a.put p.o.dst undefM) h) (ih (⟨p, .skip⟩ :: fl) (a.put p.o.dst undefM) h) (floats p.o)
    | none => none) l
noncomputable def loopM (body : MA → MH → Option MO) (n : Nat) : MA → MH → Option MO :=
  Nat.rec (fun _ _ => none) (fun _ ih a h => match body a h with
    | some ⟨.normal, a', h'⟩ => ih a' h'
    | r => r) n
def jumpOf : MX → Option Code
  | .normal => none
  | .ret => some .ret
  | .exit id => some (.exit id)
  | .goto l => some (.goto l)
def exitOf : Option Code → Option MX
  | none => some .normal
  | some .ret => some .ret
  | some (.exit id) => some (.exit id)
  | some (.goto l) => some (.goto l)
  | _ => none
noncomputable def enterM (a : MA) (ps : List Nat) (assign body : Code) (rd : Option Nat) (h : MH) : Option (Nat × MA × MH) :=
  match rd with
  | some l => match h.get l with
    | some (.loop L) => some (h.nx, a, h.new (.loop ⟨.ready, none, a.tmps, a.nt, ps, assign, body, L.defers⟩))
    | _ => none
  | none => some (Nat.succ h.nx, { a with defs := h.nx :: a.defs }, (h.new .defd).new (.loop ⟨.ready, none, a.tmps, a.nt, ps, assign, body, h.nx⟩))
abbrev Ih := Code → MA → MH → Option MO
noncomputable def cSeq (ih : Ih) (x y : Code) (a : MA) (h : MH) : Option MO :=
  match ih x a h with
  | some ⟨.normal, a', h'⟩ => ih y a' h'
  | r => r
noncomputable def cCond (ih : Ih) (c : Operand) (x y : Code) (a : MA) (h : MH) : Option MO :=
  match a.eval E.G c with
  | some (.bool b) => ih (cond b x y) a h
  | _ => none
noncomputable def cBlock (ih : Ih) (id : Nat) (c : Code) (a : MA) (h : MH) : Option MO :=
  match ih c a h with
  | some ⟨.exit id', a', h'⟩ => some ⟨cond (Nat.beq id' id) .normal (.exit id'), a', h'⟩
  | r => r
noncomputable def cScope (ih : Ih) (c : Code) (a : MA) (h : MH) : Option MO :=
  match ih c a h with
  | some ⟨.goto l, a', h'⟩ => match findLabel c l with
    | some c' => match ih c' a' h' with
      | some ⟨.goto _, _, _⟩ => none
      | r => r
    | none => none
  | r => r
noncomputable def cRegion (ops : Array Oper) (draw : Bool) (a : MA) (h : MH) : Option MO :=
  match cond draw (match planP ops with | some l => runPi E go ops l [] a h | none => none) (cond (ops.toList.all noSel) (runOps E go ops ops.toList a h) none) with
  | some (a', h') => some ⟨.normal, a', h'⟩
  | none => none
noncomputable def endM (l : Nat) (a : MA) (h : MH) : Option MO :=
  match h.get l with
  | some (.loop L) => match L.state with
    | .busy => none
    | _ => match exitOf L.pending with
      | some e => some ⟨e, a, h.set l (.loop { L with state := .exhausted })⟩
      | none => none
  | _ => none
noncomputable def cRange (rd : Option Nat) (f : Operand) (ps : Array Tmp) (assign body : Code) (a : MA) (h : MH) : Option MO :=
  match a.eval E.G f with
  | some (.fn g first captured) => match E.ext g, enterM a ps.toList assign body rd h with
    | none, some (l, a', h') => match go (.call g (first ++ [.yld l] ++ captured)) h' with
      | some (_, h'') => endM l a' h''
      | none => none
    | _, _ => none
  | _ => none
noncomputable def codeStep (rd : Option Nat) (ih : Ih) (c : Code) (a : MA) (h : MH) : Option MO :=
  match c with
  | .skip => some ⟨.normal, a, h⟩
  | .label _ => some ⟨.normal, a, h⟩
  | .ret => some ⟨.ret, a, h⟩
  | .exit id => some ⟨.exit id, a, h⟩
  | .goto l => some ⟨.goto l, a, h⟩
  | .seq x y => cSeq ih x y a h
  | .cond c x y => cCond E ih c x y a h
  | .block id c => cBlock ih id c a h
  | .loop c => loopM (ih c) 100000 a h
  | .scope c => cScope ih c a h
  | .region _ ops draw => cRegion E go ops draw a h
  | .rangeFunc f ps assign body => cRange E go rd f ps assign body a h
  | .refuse _ => none
noncomputable def code (rd : Option Nat) (n : Nat) : Code → MA → MH → Option MO :=
  Nat.rec (fun _ _ _ => none) (fun _ ih c a h => codeStep E go rd ih c a h) n
end run
section top
variable (E : Env)
noncomputable def putArgs (l : List MV) : Tr MV → Nat → Tr MV :=
  List.rec (fun t _ => t) (fun v _ ih t i => ih (t.put i v) (Nat.succ i)) l
noncomputable def putParams (ps : List Nat) : Tr MV → List MV → Option (Tr MV) :=
  List.rec (fun t vs => List.rec (some t) (fun _ _ _ => none) vs) (fun p _ ih t vs => List.rec none (fun v vs _ => ih (t.put p v) vs) vs) ps
noncomputable def resM (a : MA) (h : MH) (l : List ResultVar) : Option (List MV) :=
  List.rec (some []) (fun r _ ih =>
    match r with
    | .tmp t => match a.tmps.get t, ih with | some v, some vs => some (v :: vs) | _, _ => none
    | .cell p t => match tyOf E t, a.tmps.get p, ih with
      | some T, some (.ptr id off), some vs => match readAt T h id off with | some v => some (v :: vs) | none => none
      | _, _, _ => none) l
noncomputable def defsOk (l : List Nat) : MH → Option MH := List.rec (fun h => some h) (fun d _ ih h => match h.get d with | some .defd => cond (Nat.ble E.G.ro d) (ih (h.set d .dead)) none | _ => none) l
noncomputable def retM (F : Func) (a : MA) (h : MH) : Option (MV × MH) :=
  match defsOk E a.defs h with
  | none => none
  | some h => match resM E a h F.results.toList with
    | some [v] => some (v, h)
    | some vs => some (.tup vs, h)
    | none => none
noncomputable def callRes (F : Func) : Option MO → Option (MV × MH)
  | some ⟨.normal, a, h⟩ => retM E F a h
  | some ⟨.ret, a, h⟩ => retM E F a h
  | _ => none
noncomputable def rCall (go : Task → MH → Option (MV × MH)) (f : FuncId) (args : List MV) (h : MH) : Option (MV × MH) :=
  match E.fns.get f with
  | some F => match F.body with
    | some body => match E.orc f args h with
      | some r => some r
      | none => callRes E F (code E go none 1000 body ⟨putArgs args .nil 0, Nat.max F.ntmps (llen args 0), []⟩ h)
    | none => none
  | none => none
noncomputable def roundEnd (l : Nat) : Option MO → Option (MV × MH)
  | some ⟨e, _, h⟩ => match h.get l with
    | some (.loop L) => some (.bool (match e with | .normal => true | _ => false), h.set l (.loop { L with state := (match e with | .normal => .ready | _ => .done), pending := jumpOf e }))
    | _ => none
  | none => none
noncomputable def roundBody (go : Task → MH → Option (MV × MH)) (l : Nat) (body : Code) (a : MA) (h : MH) : Option MO :=
  match h.get l with
  | some (.loop L) => match L.state with
    | .ready => code E go (some l) 1000 body a (h.set l (.loop { L with state := .busy }))
    | _ => none
  | _ => none
noncomputable def rRound (go : Task → MH → Option (MV × MH)) (l : Nat) (args : List MV) (h : MH) : Option (MV × MH) :=
  match h.get l with
  | some (.loop L) => match cond (and (Nat.ble E.G.ro l) (L.params.all fun p => Nat.blt p L.nt)) (putParams L.params L.tmps args) none with
    | some t => match code E go (some l) 1000 L.assign ⟨t, L.nt, []⟩ h with
      | some ⟨.normal, a, h⟩ => roundEnd l (roundBody E go l L.body a h)
      | _ => none
    | none => none
  | _ => none
noncomputable def runStep (go : Task → MH → Option (MV × MH)) : Task → MH → Option (MV × MH)
  | .call f args, h => rCall E go f args h
  | .round l args, h => rRound E go l args h
noncomputable def run (n : Nat) : Task → MH → Option (MV × MH) :=
  Nat.rec (fun _ _ => none) (fun _ ih t h => runStep E ih t h) n
end top
end Go.Mini
/- The evaluator's values and heap against the world's: lists, stores, embedding, relation. -/
namespace Go.Mini
/-! ### Lists -/
section lists
variable {α : Type}
theorem lget_eq (l : List α) : ∀ n, lget l n = l[n]? := by
  induction l with
  | nil => intro n; rfl
  | cons a l ih => intro n; cases n with
    | zero => rfl
    | succ n => exact (ih n).trans (by simp)
theorem lset_eq (l : List α) : ∀ n v, lset l n v = l.set n v := by
  induction l with
  | nil => intro n v; rfl
  | cons a l ih => intro n v; cases n with
    | zero => rfl
    | succ n => exact congrArg (a :: ·) (ih n v)
theorem ldel_eq (l : List α) : ∀ n, ldel l n = l.eraseIdx n := by
  induction l with
  | nil => intro n; rfl
  | cons a l ih => intro n; cases n with
    | zero => rfl
    | succ n => exact congrArg (a :: ·) (ih n)
theorem ldrop_eq (n : Nat) : ∀ l : List α, ldrop n l = l.drop n := by
  induction n with
  | zero => intro l; rfl
  | succ n ih => intro l; cases l with
    | nil => rfl
    | cons a l => exact ih l
theorem ltake_succ (n : Nat) (a : α) (l : List α) : ltake (n + 1) (a :: l) = (ltake n l).map (a :: ·) := by
  show (Option.rec none (fun r => some (a :: r)) (ltake n l) : Option (List α)) = _
  cases ltake n l <;> rfl
theorem ltake_eq (n : Nat) : ∀ l : List α, ltake n l = if n ≤ l.length then some (l.take n) else none := by
  induction n with
  | zero => intro l; simp; rfl
  | succ n ih => intro l; cases l with
    | nil => rfl
    | cons a l => rw [ltake_succ, ih l]; by_cases h : n ≤ l.length <;> simp [h]
theorem ltake_some {n : Nat} {l r : List α} (h : ltake n l = some r) : n ≤ l.length ∧ r = l.take n := by
  rw [ltake_eq] at h
  split at h
  · rename_i hn; exact ⟨hn, (Option.some.inj h).symm⟩
  · cases h
theorem llen_eq (l : List α) : ∀ n, llen l n = l.length + n := by
  induction l with
  | nil => intro n; simp; rfl
  | cons a l ih => intro n; exact (ih _).trans (by simp; omega)
theorem lrep_eq (n : Nat) (l : List α) : lrep n l = (List.replicate n l).flatten := by
  induction n with
  | zero => rfl
  | succ n ih => exact (congrArg (l ++ ·) ih).trans (by simp [List.replicate_succ])
theorem lover_get (vs : List α) : ∀ (l : List α), vs.length ≤ l.length → (lover vs l).length = l.length ∧ ∀ i, (lover vs l)[i]? = if i < vs.length then vs[i]? else l[i]? := by
  induction vs with
  | nil => intro l _; exact ⟨rfl, fun i => by simp; rfl⟩
  | cons v vs ih => intro l h; cases l with
    | nil => simp at h
    | cons a l =>
      obtain ⟨h1, h2⟩ := ih l (by simpa using h)
      refine ⟨by show (v :: lover vs l).length = _; simp [h1], fun i => ?_⟩
      show (v :: lover vs l)[i]? = _
      cases i with
      | zero => simp
      | succ i => simp [h2 i]
theorem lsets_get (n : Nat) (vs : List α) : ∀ (l : List α), n + vs.length ≤ l.length → (lsets n vs l).length = l.length ∧
    ∀ i, (lsets n vs l)[i]? = if n ≤ i ∧ i < n + vs.length then vs[i - n]? else l[i]? := by
  induction n with
  | zero => intro l h; obtain ⟨h1, h2⟩ := lover_get vs l (by omega); exact ⟨h1, fun i => (h2 i).trans (by simp)⟩
  | succ n ih => intro l h; cases l with
    | nil => simp at h
    | cons a l =>
      obtain ⟨h1, h2⟩ := ih l (by simp at h; omega)
      refine ⟨by show (a :: lsets n vs l).length = _; simp [h1], fun i => ?_⟩
      show (a :: lsets n vs l)[i]? = _
      cases i with
      | zero => simp
      | succ i =>
        simp only [List.getElem?_cons_succ, h2 i]
        by_cases hc : n ≤ i ∧ i < n + vs.length
        · rw [if_pos hc, if_pos (by omega)]; congr 1; omega
        · rw [if_neg hc, if_neg (by omega)]
end lists
/-! ### Stores -/
def Pth.dec : Pth → Nat
  | .e => 0
  | .l p => 2 * p.dec + 1
  | .r p => 2 * p.dec + 2
theorem pthF_succ (n k : Nat) : pthF (n + 1) k = Bool.rec (Bool.rec (.r (pthF n ((k - 1) / 2))) (.l (pthF n ((k - 1) / 2))) (Nat.beq (k % 2) 1)) .e (Nat.beq k 0) := rfl
theorem dec_pthF : ∀ (n k : Nat), k < n → (pthF n k).dec = k := by
  intro n
  induction n with
  | zero => intro k h; omega
  | succ n ih =>
    intro k h
    rw [pthF_succ]
    cases h0 : Nat.beq k 0 with
    | true => have := Nat.eq_of_beq_eq_true h0; subst this; rfl
    | false =>
      have hk : k ≠ 0 := fun hk => by subst hk; cases h0
      cases h1 : Nat.beq (k % 2) 1 with
      | true =>
        have := Nat.eq_of_beq_eq_true h1
        show 2 * (pthF n ((k - 1) / 2)).dec + 1 = k
        rw [ih _ (by omega)]; omega
      | false =>
        have : k % 2 ≠ 1 := fun hk => by rw [hk] at h1; cases h1
        show 2 * (pthF n ((k - 1) / 2)).dec + 2 = k
        rw [ih _ (by omega)]; omega
theorem dec_pth (k : Nat) : (pth k).dec = k := dec_pthF _ _ (Nat.lt_succ_self k)
theorem pth_inj {k k' : Nat} (h : pth k = pth k') : k = k' := by rw [← dec_pth k, h, dec_pth]
namespace Tr
variable {α : Type}
theorem gP_nil (p : Pth) : gP p (.nil : Tr α) = none := by cases p <;> rfl
theorem gP_sP (p : Pth) (v : α) : ∀ (q : Pth) (t : Tr α), gP q (sP p v t) = if q = p then some v else gP q t := by
  induction p with
  | e => intro q t; cases t <;> cases q <;> first | rfl | exact gP_nil _
  | l p ih =>
    intro q t
    cases t with
    | nil =>
      cases q with
      | e => rfl
      | l q => show gP q (sP p v .nil) = _; rw [ih, gP_nil, gP_nil]; simp only [Pth.l.injEq]
      | r q => show gP q .nil = _; rw [gP_nil]; rfl
    | node l a r =>
      cases q with
      | e => rfl
      | l q => show gP q (sP p v l) = _; rw [ih]; simp only [Pth.l.injEq]; rfl
      | r q => rfl
  | r p ih =>
    intro q t
    cases t with
    | nil =>
      cases q with
      | e => rfl
      | r q => show gP q (sP p v .nil) = _; rw [ih, gP_nil, gP_nil]; simp only [Pth.r.injEq]
      | l q => show gP q .nil = _; rw [gP_nil]; rfl
    | node l a r =>
      cases q with
      | e => rfl
      | r q => show gP q (sP p v r) = _; rw [ih]; simp only [Pth.r.injEq]; rfl
      | l q => rfl
theorem get_put (t : Tr α) (k : Nat) (v : α) (k' : Nat) : (t.put k v).get k' = if k' = k then some v else t.get k' := by
  unfold get put
  rw [gP_sP]
  by_cases h : k' = k
  · subst h; simp
  · rw [if_neg h, if_neg (fun e => h (pth_inj e))]
theorem get_nil (k : Nat) : (.nil : Tr α).get k = none := gP_nil _
end Tr
theorem MH.get_set (h : MH) (id : Nat) (b : MB) (k : Nat) : (h.set id b).get k = if k = id then some b else h.get k := Tr.get_put _ _ _ _
theorem MH.get_new (h : MH) (b : MB) (k : Nat) : (h.new b).get k = if k = h.nx then some b else h.get k := Tr.get_put _ _ _ _
@[simp] theorem MH.nx_set (h : MH) (id : Nat) (b : MB) : (h.set id b).nx = h.nx := rfl
@[simp] theorem MH.nx_new (h : MH) (b : MB) : (h.new b).nx = h.nx + 1 := rfl
/-! ### Embedding -/
class Opq where
  val : Nat → Value
  single : ∀ i, (val i).cells = #[val i]
  one : ∀ i, (val i).oneCell' = true
variable [O : Opq]
structure RI where
  blk : Nat
  off : Nat
  cap : Nat
abbrev Sg := Nat → RI
def bytesV (s : List Nat) : ByteArray := ⟨(s.map UInt8.ofNat).toArray⟩
mutual
def emb (σ : Sg) : MV → Value
  | .bool b => .bool b
  | .int k n => .int k n
  | .str s => .string (bytesV s)
  | .nilP => .pointer none
  | .ptr id off => .pointer (some ⟨(σ id).blk, (σ id).off + off, none⟩)
  | .nilS => .slice none 0 0
  | .sl id off len cap => .slice (some ⟨(σ id).blk, (σ id).off + off, none⟩) len cap
  | .slo id off l len => .slice (some ⟨(σ id).blk, (σ id).off + off, none⟩) len ((σ id).cap - l)
  | .sle id a b l => .slice (some ⟨(σ id).blk, (σ id).off + (if (σ id).cap = l then a else b), none⟩) 0 ((σ id).cap - l)
  | .nilM => .map none
  | .mp id => .map (some (σ id).blk)
  | .fn f a b => .func (.func f) ⟨embs σ a⟩ ⟨embs σ b⟩
  | .yld id => .func (.yield (σ id).blk) #[] #[]
  | .nilF => .nilFunc
  | .nilI => .nilIface
  | .opq i => O.val i
  | .agg cs => .agg ⟨embs σ cs⟩
  | .tup vs => .tuple ⟨embs σ vs⟩
def embs (σ : Sg) : List MV → List Value
  | [] => []
  | v :: vs => emb σ v :: embs σ vs
end
theorem embs_map (σ : Sg) (l : List MV) : embs σ l = l.map (emb σ) := by
  induction l with
  | nil => rfl
  | cons a l ih => simp [embs, ih]
mutual
def wf (σ : Sg) (V : Nat → Prop) : MV → Prop
  | .str s => ∀ b ∈ s, b < 256
  | .ptr id _ => V id
  | .sl id _ len cap => V id ∧ len ≤ cap
  | .slo id _ l len => V id ∧ l + len ≤ (σ id).cap
  | .sle id _ _ l => V id ∧ l ≤ (σ id).cap
  | .mp id => V id
  | .yld id => V id
  | .fn _ a b => wfs σ V a ∧ wfs σ V b
  | .agg cs => wfs σ V cs ∧ ones cs = true
  | .tup vs => wfs σ V vs
  | _ => True
def wfs (σ : Sg) (V : Nat → Prop) : List MV → Prop
  | [] => True
  | v :: vs => wf σ V v ∧ wfs σ V vs
end
omit O in
theorem wfs_iff {σ : Sg} {V : Nat → Prop} (l : List MV) : wfs σ V l ↔ ∀ v ∈ l, wf σ V v := by
  induction l with
  | nil => simp [wfs]
  | cons a l ih => simp [wfs, ih]
omit O in
theorem ones_iff (l : List MV) : ones l = true ↔ ∀ v ∈ l, one v = true := by
  induction l with
  | nil => simp [ones]
  | cons a l ih => simp [ones, ih]
def Agr (V : Nat → Prop) (σ σ' : Sg) : Prop := ∀ id, V id → σ' id = σ id
mutual
theorem emb_agr {V : Nat → Prop} {σ σ' : Sg} (h : Agr V σ σ') : ∀ v, wf σ V v → emb σ' v = emb σ v
  | .bool _, _ | .int _ _, _ | .str _, _ | .nilP, _ | .nilS, _ | .nilM, _ | .nilF, _ | .nilI, _ | .opq _, _ => rfl
  | .ptr id _, hw => by simp only [wf] at hw; simp only [emb, h id hw]
  | .sl id _ _ _, hw => by simp only [wf] at hw; simp only [emb, h id hw.1]
  | .slo id _ _ _, hw => by simp only [wf] at hw; simp only [emb, h id hw.1]
  | .sle id _ _ _, hw => by simp only [wf] at hw; simp only [emb, h id hw.1]
  | .mp id, hw => by simp only [wf] at hw; simp only [emb, h id hw]
  | .yld id, hw => by simp only [wf] at hw; simp only [emb, h id hw]
  | .fn f a b, hw => by simp only [wf] at hw; simp only [emb, embs_agr h a hw.1, embs_agr h b hw.2]
  | .agg cs, hw => by simp only [wf] at hw; simp only [emb, embs_agr h cs hw.1]
  | .tup vs, hw => by simp only [wf] at hw; simp only [emb, embs_agr h vs hw]
theorem embs_agr {V : Nat → Prop} {σ σ' : Sg} (h : Agr V σ σ') : ∀ l, wfs σ V l → embs σ' l = embs σ l
  | [], _ => rfl
  | v :: vs, hw => by simp only [wfs] at hw; simp only [embs, emb_agr h v hw.1, embs_agr h vs hw.2]
end
end Go.Mini
namespace Go.Mini
mutual
theorem wf_agr {V V' : Nat → Prop} {σ σ' : Sg} (h : Agr V σ σ') (hV : ∀ id, V id → V' id) : ∀ v, wf σ V v → wf σ' V' v
  | .bool _, _ | .int _ _, _ | .nilP, _ | .nilS, _ | .nilM, _ | .nilF, _ | .nilI, _ | .opq _, _ => trivial
  | .str _, hw => by simp only [wf] at hw ⊢; exact hw
  | .ptr id _, hw => by simp only [wf] at hw ⊢; exact hV _ hw
  | .sl id _ _ _, hw => by simp only [wf] at hw ⊢; exact ⟨hV _ hw.1, hw.2⟩
  | .slo id _ _ _, hw => by simp only [wf] at hw ⊢; exact ⟨hV _ hw.1, by rw [h id hw.1]; exact hw.2⟩
  | .sle id _ _ _, hw => by simp only [wf] at hw ⊢; exact ⟨hV _ hw.1, by rw [h id hw.1]; exact hw.2⟩
  | .mp id, hw => by simp only [wf] at hw ⊢; exact hV _ hw
  | .yld id, hw => by simp only [wf] at hw ⊢; exact hV _ hw
  | .fn f a b, hw => by simp only [wf] at hw ⊢; exact ⟨wfs_agr h hV a hw.1, wfs_agr h hV b hw.2⟩
  | .agg cs, hw => by simp only [wf] at hw ⊢; exact ⟨wfs_agr h hV cs hw.1, hw.2⟩
  | .tup vs, hw => by simp only [wf] at hw ⊢; exact wfs_agr h hV vs hw
theorem wfs_agr {V V' : Nat → Prop} {σ σ' : Sg} (h : Agr V σ σ') (hV : ∀ id, V id → V' id) : ∀ l, wfs σ V l → wfs σ' V' l
  | [], _ => trivial
  | v :: vs, hw => by simp only [wfs] at hw ⊢; exact ⟨wf_agr h hV v hw.1, wfs_agr h hV vs hw.2⟩
end
variable [O : Opq]
theorem emb_cells (σ : Sg) (v : MV) : (emb σ v).cells = ⟨embs σ v.cells⟩ := by
  cases v <;> first
    | (simp [emb, Value.cells, MV.cells, embs]; done)
    | (simp only [emb, MV.cells, embs]; exact O.single _)
omit O in
theorem wf_cells {σ : Sg} {V : Nat → Prop} {v : MV} (h : wf σ V v) : wfs σ V v.cells := by
  cases v <;> simp only [MV.cells, wfs, and_true] <;> first | exact h | (simp only [wf] at h; exact h.1)
mutual
theorem ofV_ok (σ : Sg) (V : Nat → Prop) : ∀ (v : Value) (m : MV), ofV v = some m → emb σ m = v ∧ wf σ V m
  | .bool b, m, h => by simp only [ofV, Option.some.injEq] at h; subst h; exact ⟨rfl, trivial⟩
  | .int k n, m, h => by simp only [ofV, Option.some.injEq] at h; subst h; exact ⟨rfl, trivial⟩
  | .string s, m, h => by
    simp only [ofV, Option.some.injEq] at h; subst h
    constructor
    · simp only [emb, bytesV, List.map_map]
      congr 1
      obtain ⟨⟨l⟩⟩ := s
      congr 1
      have : (ByteArray.mk ⟨l⟩).toList = l := by simp
      rw [this]
      congr 1
      conv => rhs; rw [← List.map_id l]
      congr 1
      funext x; simp
    · simp only [wf, List.mem_map]
      rintro b ⟨x, -, rfl⟩
      exact x.toNat_lt
  | .pointer none, m, h => by simp only [ofV, Option.some.injEq] at h; subst h; exact ⟨rfl, trivial⟩
  | .pointer (some _), m, h => by simp [ofV] at h
  | .slice none 0 0, m, h => by simp only [ofV, Option.some.injEq] at h; subst h; exact ⟨rfl, trivial⟩
  | .slice none (_ + 1) _, m, h => by simp [ofV] at h
  | .slice none 0 (_ + 1), m, h => by simp [ofV] at h
  | .slice (some _) _ _, m, h => by simp [ofV] at h
  | .map none, m, h => by simp only [ofV, Option.some.injEq] at h; subst h; exact ⟨rfl, trivial⟩
  | .map (some _), m, h => by simp [ofV] at h
  | .nilFunc, m, h => by simp only [ofV, Option.some.injEq] at h; subst h; exact ⟨rfl, trivial⟩
  | .nilIface, m, h => by simp only [ofV, Option.some.injEq] at h; subst h; exact ⟨rfl, trivial⟩
  | .agg ⟨cs⟩, m, h => by
    simp only [ofV] at h
    cases hc : ofVs cs with
    | none => rw [hc] at h; cases h
    | some l =>
      rw [hc] at h
      cases ho : ones l with
      | false => simp [ho] at h
      | true =>
        simp only [ho, cond_true, Option.some.injEq] at h; subst h
        obtain ⟨h1, h2⟩ := ofVs_ok σ V cs l hc
        exact ⟨by simp only [emb, h1], by simp only [wf]; exact ⟨h2, ho⟩⟩
  | .tuple ⟨cs⟩, m, h => by
    simp only [ofV] at h
    cases hc : ofVs cs with
    | none => rw [hc] at h; cases h
    | some l =>
      rw [hc] at h; simp only [Option.some.injEq] at h; subst h
      obtain ⟨h1, h2⟩ := ofVs_ok σ V cs l hc
      exact ⟨by simp only [emb, h1], by simp only [wf]; exact h2⟩
  | .float _ _, m, h | .complex _ _ _, m, h | .chan _, m, h | .func _ _ _, m, h | .iface _ _, m, h => by simp [ofV] at h
theorem ofVs_ok (σ : Sg) (V : Nat → Prop) : ∀ (vs : List Value) (l : List MV), ofVs vs = some l → embs σ l = vs ∧ wfs σ V l
  | [], l, h => by simp only [ofVs, Option.some.injEq] at h; subst h; exact ⟨rfl, trivial⟩
  | v :: vs, l, h => by
    simp only [ofVs] at h
    cases h1 : ofV v with
    | none => simp [h1] at h
    | some m => cases h2 : ofVs vs with
      | none => simp [h1, h2] at h
      | some ms =>
        simp only [h1, h2, Option.some.injEq] at h; subst h
        obtain ⟨a1, a2⟩ := ofV_ok σ V v m h1
        obtain ⟨b1, b2⟩ := ofVs_ok σ V vs ms h2
        exact ⟨by simp only [embs, a1, b1], by simp only [wfs]; exact ⟨a2, b2⟩⟩
end
end Go.Mini
/- The evaluator's heap against the world's: the relation, and what keeps it. -/
namespace Go.Mini
variable [O : Opq]
open Go.RowKit
structure EnvOk (E : Env) (P : Program) : Prop where
  ty : ∀ t T, E.ty.get t = some T → P.info? t = some T.info ∧ P.underlying t = some T.und
  fns : ∀ f F, E.fns.get f = some F → P.funcs[f]? = some F ∧ F.name ≠ "runtime.NumGoroutine"
  ext : ∀ f k, E.ext f = some k → ∀ σ V args v, extM k args = some (.val v) → wfs σ V args → wf σ V v ∧ ∀ w, (callFunc f ⟨embs σ args⟩).run P w = .ok (.value (emb σ v)) w
  cmp : ∀ t, E.cmp t = true → P.eqGuardType P.depth t = false ∧ P.stoodInHeld t = false
  mixed : P.follows .mixedOrders = true
  bo : ∀ op t x y v, E.bo op t x y = some v → ∀ (σ : Sg) (V : Nat → Prop), wf σ V x → wf σ V y → wf σ V v ∧ (emb σ x ≠ .nilIface ∧ ∀ c, emb σ x ≠ .agg c) ∧ ∀ w, (binOp op t (emb σ x) (emb σ y)).run P w = .ok (emb σ v) w
  co : ∀ s d x v, E.co s d x = some v → ∀ (σ : Sg) (V : Nat → Prop), wf σ V x → wf σ V v ∧ ∀ w, (convert s d (emb σ x)).run P w = .ok (emb σ v) w
section runs
variable {P : Program} {w : World}
omit O in
theorem r_typeInfo {t : TypeId} {i : TypeInfo} (h : P.info? t = some i) (w : World) : (typeInfo t).run P w = .ok i w := by
  simp [typeInfo, h]
omit O in
theorem r_und {t : TypeId} {d : TypeDesc} (h : P.underlying t = some d) (w : World) : (underlying t).run P w = .ok d w := by
  simp [underlying, h]
omit O in
theorem r_size {t : TypeId} {i : TypeInfo} (h : P.info? t = some i) (w : World) : (sizeOf t).run P w = .ok i.size w := by
  simp [sizeOf, typeInfo, h]
omit O in
theorem r_zero {t : TypeId} {i : TypeInfo} {z : Value} (h : P.info? t = some i) (hz : i.zero = some z) (w : World) : (zeroValue t).run P w = .ok z w := by
  simp [zeroValue, typeInfo, h, hz]
omit O in
theorem r_isAgg {T : MT} {t : TypeId} (h : P.underlying t = some T.und) (w : World) : (isAgg t).run P w = .ok (aggT T) w := by
  obtain ⟨d, i⟩ := T
  simp only [isAgg, Sem.run_bind, r_und h, Result.andThen, aggT]
  cases d <;> rfl
end runs
def cellsAt (w : World) (b : Nat) (c : Array Value) (t : TypeId) (fz : Nat × Nat) : Prop := w.heap[b]? = some (.cells c t fz)
def embE (σ : Sg) (e : ME) : MapEntry := ⟨emb σ e.key, emb σ e.val, e.born⟩
def wfE (σ : Sg) (V : Nat → Prop) (e : ME) : Prop := wf σ V e.key ∧ wf σ V e.val
structure TmR (σ : Sg) (V : Nat → Prop) (t : Tr MV) (nt : Nat) (a : Array Value) : Prop where
  size : a.size = nt
  cell : ∀ k v, t.get k = some v → wf σ V v ∧ a[k]? = some (emb σ v)
def embL (σ : Sg) (L : ML) (tm : Array Value) (fn : FuncId) : Loop :=
  { state := L.state, pending := L.pending, fn, tmps := tm, params := ⟨L.params⟩, assign := L.assign, body := L.body, defers := (σ L.defers).blk }
def Blk (σ : Sg) (V : Nat → Prop) (id : Nat) (w : World) : MB → Prop
  | .cells cs t es opn => ∃ c fz, w.heap[(σ id).blk]? = some (.cells c t fz) ∧ wfs σ V cs ∧ ones cs = true ∧
      (∀ i v, cs[i]? = some v → c[(σ id).off + i]? = some (emb σ v)) ∧ (opn = true → (σ id).off + (σ id).cap * es ≤ c.size) ∧ (fz.1 = fz.2 ∨ c.size ≤ fz.1)
  | .map es clock => w.heap[(σ id).blk]? = some (.map ⟨es.map (embE σ)⟩ clock) ∧ ∀ e ∈ es, wfE σ V e
  | .iter m since seen stepped => w.heap[(σ id).blk]? = some (.mapIter (m.map fun i => (σ i).blk) since ⟨seen⟩ stepped) ∧ (σ id).off = 0 ∧ ∀ i, m = some i → V i
  | .loop L => ∃ tm fn, w.heap[(σ id).blk]? = some (.loop (embL σ L tm fn)) ∧ TmR σ V L.tmps L.nt tm ∧ V L.defers
  | .defd => w.heap[(σ id).blk]? = some (.deferred (some []))
  | .dead => True
def live : MB → Bool
  | .dead => false
  | _ => true
structure Kept (B : Nat → Prop) (w w' : World) : Prop where
  os : w'.os = w.os
  tape : w'.tape = w.tape
  output : w'.output = w.output
  size : w.heap.size ≤ w'.heap.size
  block : ∀ k, B k → w'.heap[k]? = w.heap[k]?
omit O in
theorem Kept.refl (B : Nat → Prop) (w : World) : Kept B w w := ⟨rfl, rfl, rfl, Nat.le_refl _, fun _ _ => rfl⟩
omit O in
theorem Kept.of_below {B : Nat → Prop} {a b c : World} (h : Kept B a b) (hb : Below b.heap.size b c) (hB : ∀ k, B k → k < b.heap.size) : Kept B a c :=
  ⟨hb.os.trans h.os, hb.tape.trans h.tape, hb.output.trans h.output, Nat.le_trans h.size hb.size, fun k hk => (hb.block k (hB k hk)).trans (h.block k hk)⟩
omit O in
theorem Kept.alloc {B : Nat → Prop} {a b : World} (h : Kept B a b) (hB : ∀ k, B k → k < b.heap.size) (o : Obj) : Kept B a (b.alloc o) :=
  h.of_below ((Below.refl _ _).alloc (Nat.le_refl _) o) hB
omit O in
theorem Kept.drew {B : Nat → Prop} {a b : World} (h : Kept B a b) : Kept B a b.drew := ⟨h.os, h.tape, h.output, h.size, h.block⟩
omit O in
theorem Kept.below {n : Nat} {a b : World} (h : Kept (· < n) a b) : Below n a b := ⟨h.os, h.tape, h.output, h.size, h.block⟩
structure Rel (G : GB) (B : Nat → Prop) (W0 : World) (σ : Sg) (V : Nat → Prop) (h : MH) (w : World) : Prop where
  blk : ∀ id b, V id → h.get id = some b → Blk σ V id w b
  inj : ∀ id id' b b', V id → V id' → h.get id = some b → h.get id' = some b' → live b = true → live b' = true → (σ id).blk = (σ id').blk → id = id'
  own : ∀ id b, V id → h.get id = some b → live b = true → G.ro ≤ id → ¬ B (σ id).blk
  glob : ∀ id, id < G.g0 → V id ∧ (σ id).blk = id ∧ (σ id).off = 0
  nx : ∀ id b, h.get id = some b → id < h.nx
  vx : ∀ id, V id → id < h.nx
  gx : G.ro ≤ h.nx
  below : Kept B W0 w
theorem Blk.has {σ : Sg} {V : Nat → Prop} {id : Nat} {w : World} {b : MB} (h : Blk σ V id w b) (hl : live b = true) : ∃ o, w.heap[(σ id).blk]? = some o := by
  cases b with
  | cells cs t es opn => obtain ⟨c, fz, h, -⟩ := h; exact ⟨_, h⟩
  | map es clock => exact ⟨_, h.1⟩
  | iter m since seen stepped => exact ⟨_, h.1⟩
  | loop L => obtain ⟨tm, fn, h, -⟩ := h; exact ⟨_, h⟩
  | defd => exact ⟨_, h⟩
  | dead => cases hl
theorem wfE_agr {V V' : Nat → Prop} {σ σ' : Sg} (h : Agr V σ σ') (hV : ∀ id, V id → V' id) {e : ME} (he : wfE σ V e) : wfE σ' V' e ∧ embE σ' e = embE σ e :=
  ⟨⟨wf_agr h hV _ he.1, wf_agr h hV _ he.2⟩, by unfold embE; rw [emb_agr h _ he.1, emb_agr h _ he.2]⟩
theorem TmR.agr {V V' : Nat → Prop} {σ σ' : Sg} {t : Tr MV} {nt : Nat} {a : Array Value} (h : Agr V σ σ') (hV : ∀ id, V id → V' id) (ht : TmR σ V t nt a) : TmR σ' V' t nt a :=
  ⟨ht.size, fun k v hk => let ⟨h1, h2⟩ := ht.cell k v hk; ⟨wf_agr h hV _ h1, by rw [emb_agr h _ h1]; exact h2⟩⟩
theorem Blk.agr {V V' : Nat → Prop} {σ σ' : Sg} {id : Nat} {w w' : World} {b : MB} (h : Agr V σ σ') (hV : ∀ id, V id → V' id) (hid : V id)
    (hw : live b = true → w'.heap[(σ id).blk]? = w.heap[(σ id).blk]?) (hb : Blk σ V id w b) : Blk σ' V' id w' b := by
  have e := h id hid
  cases b with
  | cells cs t es opn =>
    obtain ⟨c, fz, h1, h2, h3, h4, h5, h6⟩ := hb
    refine ⟨c, fz, by rw [e, hw rfl]; exact h1, wfs_agr h hV _ h2, h3, fun i v hv => ?_, by rw [e]; exact h5, h6⟩
    rw [e, emb_agr h v ((wfs_iff _).1 h2 v (List.mem_of_getElem? hv))]; exact h4 i v hv
  | map es clock =>
    obtain ⟨h1, h2⟩ := hb
    refine ⟨?_, fun x hx => (wfE_agr h hV (h2 x hx)).1⟩
    rw [e, hw rfl, h1]
    congr 3
    exact List.map_congr_left fun x hx => ((wfE_agr h hV (h2 x hx)).2).symm
  | iter m since seen stepped =>
    obtain ⟨h1, h0, h2⟩ := hb
    refine ⟨?_, by rw [e]; exact h0, fun i hi => hV _ (h2 i hi)⟩
    rw [e, hw rfl, h1]
    cases m with
    | none => rfl
    | some i => simp only [Option.map_some, h i (h2 i rfl)]
  | loop L =>
    obtain ⟨tm, fn, h1, h2, h3⟩ := hb
    refine ⟨tm, fn, ?_, h2.agr h hV, hV _ h3⟩
    rw [e, hw rfl, h1]
    simp only [embL, h _ h3]
  | defd => show w'.heap[(σ' id).blk]? = _; rw [e, hw rfl]; exact hb
  | dead => trivial
def upd (σ : Sg) (id : Nat) (r : RI) : Sg := fun k => if k = id then r else σ k
omit O in
theorem upd_same (σ : Sg) (id : Nat) (r : RI) : upd σ id r id = r := by simp [upd]
omit O in
theorem upd_ne (σ : Sg) {id k : Nat} (r : RI) (h : k ≠ id) : upd σ id r k = σ k := by simp [upd, h]
omit O in
theorem agr_upd {V : Nat → Prop} (σ : Sg) {id : Nat} (r : RI) (h : ¬ V id) : Agr V σ (upd σ id r) := fun _ hk => upd_ne σ r (fun e => h (e ▸ hk))
def addV (V : Nat → Prop) (id : Nat) : Nat → Prop := fun k => V k ∨ k = id
section rel
variable {G : GB} {B : Nat → Prop} {W0 : World} {σ : Sg} {V : Nat → Prop} {h : MH} {w : World}
theorem Rel.lt (R : Rel G B W0 σ V h w) {id : Nat} {b : MB} (hv : V id) (hb : h.get id = some b) (hl : live b = true) : (σ id).blk < w.heap.size := by
  obtain ⟨o, ho⟩ := (R.blk id b hv hb).has hl
  exact (Array.getElem?_eq_some_iff.1 ho).1
theorem Rel.drew (R : Rel G B W0 σ V h w) : Rel G B W0 σ V h w.drew :=
  ⟨fun id b hv hb => (R.blk id b hv hb).agr (fun _ _ => rfl) (fun _ hx => hx) hv (fun _ => rfl), R.inj, R.own, R.glob, R.nx, R.vx, R.gx, R.below.drew⟩
theorem Rel.ghost (R : Rel G B W0 σ V h w) (b : MB) : Rel G B W0 σ V (h.new b) w := by
  have hne : ∀ id, V id → id ≠ h.nx := fun id hv e => Nat.lt_irrefl _ (e ▸ R.vx id hv)
  have hg : ∀ id, V id → (h.new b).get id = h.get id := fun id hv => by rw [MH.get_new, if_neg (hne id hv)]
  refine ⟨fun id b' hv hb => R.blk id b' hv (by rw [← hg id hv]; exact hb), fun id id' b1 b2 hv hv' h1 h2 => R.inj id id' b1 b2 hv hv' (by rw [← hg id hv]; exact h1) (by rw [← hg id' hv']; exact h2),
    fun id b' hv hb => R.own id b' hv (by rw [← hg id hv]; exact hb), R.glob, fun id b' hb => ?_, fun id hv => Nat.lt_succ_of_lt (R.vx id hv), Nat.le_succ_of_le R.gx, R.below⟩
  rw [MH.get_new] at hb
  split at hb
  · rename_i e; subst e; exact Nat.lt_succ_self _
  · exact Nat.lt_succ_of_lt (R.nx id b' hb)
theorem Rel.mapIn (R : Rel G B W0 σ V h w) {id : Nat} {b : MB} {o : Obj} (hB : ∀ k, B k → k < w.heap.size) (hv : ¬ V id) (hb : h.get id = some b) (hG : G.ro ≤ id) (off cap : Nat)
    (hblk : Blk (upd σ id ⟨w.heap.size, off, cap⟩) (addV V id) id (w.alloc o) b) : Rel G B W0 (upd σ id ⟨w.heap.size, off, cap⟩) (addV V id) h (w.alloc o) := by
  have ha := agr_upd (V := V) σ ⟨w.heap.size, off, cap⟩ hv
  have hV : ∀ k, V k → addV V id k := fun k hk => .inl hk
  refine ⟨fun id' b' hv' hb' => ?_, fun id1 id2 b1 b2 hv1 hv2 h1 h2 l1 l2 he => ?_, fun id' b' hv' hb' hl hg => ?_, fun k hk => ?_, R.nx, fun k hk => ?_, R.gx, R.below.alloc hB o⟩
  · rcases hv' with hv' | rfl
    · refine (R.blk id' b' hv' hb').agr ha hV hv' (fun hl => ?_)
      exact Below.heap_alloc w o _ (R.lt hv' hb' hl)
    · rw [hb] at hb'; cases hb'; exact hblk
  · rcases hv1 with hv1 | rfl <;> rcases hv2 with hv2 | rfl
    · rw [ha _ hv1, ha _ hv2] at he; exact R.inj _ _ _ _ hv1 hv2 h1 h2 l1 l2 he
    · rw [ha _ hv1, upd_same] at he; have := R.lt hv1 h1 l1; simp only at he; omega
    · rw [ha _ hv2, upd_same] at he; have := R.lt hv2 h2 l2; simp only at he; omega
    · rfl
  · rcases hv' with hv' | rfl
    · rw [ha _ hv']; exact R.own id' b' hv' hb' hl hg
    · rw [upd_same]; exact fun h => Nat.lt_irrefl _ (hB _ h)
  · obtain ⟨h1, h2, h3⟩ := R.glob k hk
    refine ⟨.inl h1, ?_⟩
    rw [ha _ h1]; exact ⟨h2, h3⟩
  · rcases hk with hk | rfl
    · exact R.vx k hk
    · exact R.nx _ _ hb
theorem Rel.alloc (R : Rel G B W0 σ V h w) {b : MB} {o : Obj} (hB : ∀ k, B k → k < w.heap.size) (off cap : Nat)
    (hblk : Blk (upd σ h.nx ⟨w.heap.size, off, cap⟩) (addV V h.nx) h.nx (w.alloc o) b) : Rel G B W0 (upd σ h.nx ⟨w.heap.size, off, cap⟩) (addV V h.nx) (h.new b) (w.alloc o) :=
  (R.ghost b).mapIn hB (fun hv => Nat.lt_irrefl _ (R.vx _ hv)) (by rw [MH.get_new, if_pos rfl]) R.gx off cap hblk
theorem Rel.write (R : Rel G B W0 σ V h w) {id : Nat} {b0 b : MB} (hv : V id) (hb0 : h.get id = some b0) (hl0 : live b0 = true) (hG : G.ro ≤ id) (o : Obj)
    (hblk : Blk σ V id (w.putObj (σ id).blk o) b) : Rel G B W0 σ V (h.set id b) (w.putObj (σ id).blk o) := by
  have hget : ∀ k, k ≠ id → (h.set id b).get k = h.get k := fun k hk => by rw [MH.get_set, if_neg hk]
  have hsame : (h.set id b).get id = some b := by rw [MH.get_set, if_pos rfl]
  have hheap : ∀ k, k ≠ (σ id).blk → (w.putObj (σ id).blk o).heap[k]? = w.heap[k]? := fun k hk => by
    simp only [World.putObj]; exact Array.getElem?_setIfInBounds_ne (Ne.symm hk)
  have hown := R.own id b0 hv hb0 hl0 hG
  refine ⟨fun k b' hk hb' => ?_, fun id1 id2 b1 b2 hv1 hv2 h1 h2 l1 l2 he => ?_, fun k b' hk hb' hl hg => ?_, R.glob, fun k b' hb' => ?_, R.vx, R.gx,
    ⟨R.below.os, R.below.tape, R.below.output, by simpa [World.putObj] using R.below.size, fun k hk => by rw [hheap k (fun e => hown (e ▸ hk))]; exact R.below.block k hk⟩⟩
  · by_cases e : k = id
    · subst e; rw [hsame] at hb'; cases hb'; exact hblk
    · rw [hget k e] at hb'
      refine (R.blk k b' hk hb').agr (fun _ _ => rfl) (fun _ hx => hx) hk (fun hl => hheap _ (fun e' => e ?_))
      exact R.inj k id b' b0 hk hv hb' hb0 hl hl0 e'
  · by_cases e1 : id1 = id <;> by_cases e2 : id2 = id
    · rw [e1, e2]
    · subst e1; rw [hget _ e2] at h2; exact R.inj _ _ _ _ hv1 hv2 hb0 h2 hl0 l2 he
    · subst e2; rw [hget _ e1] at h1; exact R.inj _ _ _ _ hv1 hv2 h1 hb0 l1 hl0 he
    · rw [hget _ e1] at h1; rw [hget _ e2] at h2; exact R.inj _ _ _ _ hv1 hv2 h1 h2 l1 l2 he
  · by_cases e : k = id
    · subst e; exact hown
    · rw [hget k e] at hb'; exact R.own k b' hk hb' hl hg
  · by_cases e : k = id
    · subst e; exact R.nx _ _ hb0
    · rw [hget k e] at hb'; exact R.nx k b' hb'
theorem Rel.kill (R : Rel G B W0 σ V h w) {id : Nat} {b0 : MB} (hb0 : h.get id = some b0) : Rel G B W0 σ V (h.set id .dead) w := by
  have hget : ∀ k, k ≠ id → (h.set id .dead).get k = h.get k := fun k hk => by rw [MH.get_set, if_neg hk]
  have hsame : (h.set id .dead).get id = some .dead := by rw [MH.get_set, if_pos rfl]
  refine ⟨fun k b' hk hb' => ?_, fun id1 id2 b1 b2 hv1 hv2 h1 h2 l1 l2 he => ?_, fun k b' hk hb' hl hg => ?_, R.glob, fun k b' hb' => ?_, R.vx, R.gx, R.below⟩
  · by_cases e : k = id
    · subst e; rw [hsame] at hb'; cases hb'; trivial
    · rw [hget k e] at hb'; exact R.blk k b' hk hb'
  · by_cases e1 : id1 = id
    · subst e1; rw [hsame] at h1; cases h1; cases l1
    · by_cases e2 : id2 = id
      · subst e2; rw [hsame] at h2; cases h2; cases l2
      · rw [hget _ e1] at h1; rw [hget _ e2] at h2; exact R.inj _ _ _ _ hv1 hv2 h1 h2 l1 l2 he
  · by_cases e : k = id
    · subst e; rw [hsame] at hb'; cases hb'; cases hl
    · rw [hget k e] at hb'; exact R.own k b' hk hb' hl hg
  · by_cases e : k = id
    · subst e; exact R.nx _ _ hb0
    · rw [hget k e] at hb'; exact R.nx k b' hb'
theorem Rel.size (R : Rel G B W0 σ V h w) (hW : ∀ k, B k → k < W0.heap.size) : ∀ k, B k → k < w.heap.size := fun k hk => Nat.lt_of_lt_of_le (hW k hk) R.below.size
end rel
end Go.Mini
/- The evaluator's operations against the model's: those that only look. -/
namespace Go.Mini
variable [O : Opq]
open Go.RowKit
def EvR (σ : Sg) (V : Nat → Prop) (ev : Ev) (ρ : Operand → Value) : Prop := ∀ x v, ev x = some v → wf σ V v ∧ ρ x = emb σ v
omit O in
theorem Sem.bind_ok {α β : Type} {P : Program} {w w' : World} {x : Sem α} {f : α → Sem β} {a : α} (h : x.run P w = .ok a w') : (x >>= f).run P w = (f a).run P w' := by
  rw [Sem.run_bind, h]; rfl
section looks
variable {E : Env} {P : Program} {B : Nat → Prop} {W0 : World} {σ : Sg} {V : Nat → Prop} {h : MH} {w : World} {ev : Ev} {ρ : Operand → Value}
omit O in
theorem vR_some {o : Option MV} {v : MV} (h : vR o = some (.val v)) : o = some v := by
  unfold vR at h; split at h
  · simpa using h
  · cases h
omit O in
theorem evs_cons (x : Operand) (l : List Operand) : evs ev (x :: l) = (match ev x with | none => none | some v => match evs ev l with | none => none | some vs => some (v :: vs)) := by
  show (Option.rec none (fun v => Option.rec none (fun vs => some (v :: vs)) (evs ev l)) (ev x) : Option (List MV)) = _
  cases ev x with
  | none => rfl
  | some v => cases evs ev l <;> rfl
theorem evs_ok (hev : EvR σ V ev ρ) : ∀ (l : List Operand) (vs : List MV), evs ev l = some vs → wfs σ V vs ∧ l.map ρ = embs σ vs := by
  intro l
  induction l with
  | nil => intro vs h
           have e : evs ev [] = some [] := rfl
           rw [e] at h; cases h
           exact ⟨trivial, rfl⟩
  | cons x l ih =>
    intro vs h
    rw [evs_cons] at h
    split at h
    · cases h
    · rename_i v hv
      split at h
      · cases h
      · rename_i us hu
        cases h
        obtain ⟨h1, h2⟩ := hev x v hv
        obtain ⟨h3, h4⟩ := ih us hu
        exact ⟨by simp only [wfs]; exact ⟨h1, h3⟩, by simp only [List.map_cons, h2, h4, embs]⟩
theorem readCells_ok (R : Rel E.G B W0 σ V h w) {id off n : Nat} {l : List MV} (hv : V id) (hr : readCells h id off n = some l) :
    wfs σ V l ∧ ones l = true ∧ l.length = n ∧ ∀ i v, l[i]? = some v → w.cell? ⟨(σ id).blk, (σ id).off + off + i, none⟩ = some (emb σ v) := by
  unfold readCells at hr
  split at hr
  · rename_i cs t es opn hg
    obtain ⟨c, fz, h1, h2, h3, h4, -, -⟩ := R.blk id _ hv hg
    obtain ⟨hn, rfl⟩ := ltake_some hr
    rw [ldrop_eq] at hn ⊢
    have hmem : ∀ v ∈ (cs.drop off).take n, v ∈ cs := fun v hv => List.mem_of_mem_drop (List.mem_of_mem_take hv)
    refine ⟨(wfs_iff _).2 fun v hv => (wfs_iff _).1 h2 v (hmem v hv), (ones_iff _).2 fun v hv => (ones_iff _).1 h3 v (hmem v hv), by simp at hn ⊢; omega, fun i v hi => ?_⟩
    have hi' : cs[off + i]? = some v := by
      rw [List.getElem?_take] at hi
      split at hi
      · rw [List.getElem?_drop] at hi; exact hi
      · cases hi
    have := h4 _ _ hi'
    simp only [World.cell?, h1]
    rw [if_neg (by simp), Nat.add_assoc]; exact this
  · cases hr
theorem loadCells_ok {id off : Nat} {l : List MV} (hc : ∀ i v, l[i]? = some v → w.cell? ⟨(σ id).blk, (σ id).off + off + i, none⟩ = some (emb σ v)) :
    (loadCells ⟨(σ id).blk, (σ id).off + off, none⟩ l.length).run P w = .ok ⟨embs σ l⟩ w := by
  have := run_loadCells_list (P := P) (w := w) ⟨(σ id).blk, (σ id).off + off, none⟩ (embs σ l) (fun j v hj => by
    rw [embs_map, List.getElem?_map] at hj
    cases hl : l[j]? with
    | none => rw [hl] at hj; cases hj
    | some u =>
      rw [hl] at hj; cases hj
      rw [Addr.add_lit]; exact hc j u hl)
  rw [show (embs σ l).length = l.length by rw [embs_map]; simp] at this
  exact this
theorem readAt_ok (hE : EnvOk E P) (R : Rel E.G B W0 σ V h w) {t : TypeId} {T : MT} {id off : Nat} {v : MV} (hT : E.ty.get t = some T) (hv : V id) (hr : readAt T h id off = some v) :
    wf σ V v ∧ (loadVar t ⟨(σ id).blk, (σ id).off + off, none⟩).run P w = .ok (emb σ v) w := by
  obtain ⟨hi, hu⟩ := hE.ty t T hT
  unfold readAt at hr
  split at hr
  · rename_i cs e es opn hg
    unfold partOf at hr
    unfold loadVar
    rw [Sem.bind_ok (r_isAgg hu w)]
    cases ha : aggT T with
    | true =>
      rw [ha] at hr
      simp only [cond_true] at hr
      split at hr
      · rename_i l hl
        cases hr
        have hrc : readCells h id off T.info.size = some l := by unfold readCells; rw [hg]; exact hl
        obtain ⟨h1, h2, h3, h4⟩ := readCells_ok R hv hrc
        refine ⟨by simp only [wf]; exact ⟨h1, h2⟩, ?_⟩
        simp only [if_true]
        rw [Sem.bind_ok (r_size hi w)]
        rw [← h3, Sem.bind_ok (loadCells_ok h4)]
        simp only [Sem.run_pure, emb]
      · cases hr
    | false =>
      rw [ha] at hr
      simp only [cond_false] at hr
      obtain ⟨c, fz, h1, h2, h3, h4, -, -⟩ := R.blk id _ hv hg
      rw [lget_eq] at hr
      refine ⟨(wfs_iff _).1 h2 v (List.mem_of_getElem? hr), ?_⟩
      have hc : w.cell? ⟨(σ id).blk, (σ id).off + off, none⟩ = some (emb σ v) := by
        simp only [World.cell?, h1]
        rw [if_neg (by simp)]; exact h4 _ _ hr
      simp only [Bool.false_eq_true, if_false, run_load, hc]
  · cases hr
theorem load_ok (hE : EnvOk E P) (R : Rel E.G B W0 σ V h w) (hev : EvR σ V ev ρ) {t : TypeId} {x : Operand} {v : MV} (ho : oLoad E ev t x h = some (.val v)) :
    wf σ V v ∧ (Instr.loadAt t (ρ x)).run P w = .ok (emb σ v) w := by
  unfold oLoad at ho
  split at ho
  · rename_i T id off hT hx
    obtain ⟨h1, h2⟩ := hev x _ hx
    simp only [wf] at h1
    have := readAt_ok hE R hT h1 (vR_some ho)
    refine ⟨this.1, ?_⟩
    rw [h2]
    simp only [Instr.loadAt, Instr.sureAddr, emb, pure_bind]
    exact this.2
  · cases ho
theorem part_ok (hE : EnvOk E P) {t : TypeId} {T : MT} {cs : List MV} {off : Nat} {v : MV} (hT : E.ty.get t = some T) (hc : wfs σ V cs) (h1 : ones cs = true) (hp : partOf T cs off = some v) (w : World) :
    wf σ V v ∧ (part t ⟨embs σ cs⟩ off).run P w = .ok (emb σ v) w := by
  obtain ⟨hi, hu⟩ := hE.ty t T hT
  unfold partOf at hp
  unfold part
  rw [Sem.bind_ok (r_isAgg hu w)]
  cases ha : aggT T with
  | true =>
    rw [ha] at hp
    simp only [cond_true] at hp
    split at hp
    · rename_i l hl
      cases hp
      obtain ⟨hn, rfl⟩ := ltake_some hl
      rw [ldrop_eq] at hn ⊢
      have hmem : ∀ v ∈ (cs.drop off).take T.info.size, v ∈ cs := fun v hv => List.mem_of_mem_drop (List.mem_of_mem_take hv)
      refine ⟨by simp only [wf]; exact ⟨(wfs_iff _).2 fun v hv => (wfs_iff _).1 hc v (hmem v hv), (ones_iff _).2 fun v hv => (ones_iff _).1 h1 v (hmem v hv)⟩, ?_⟩
      simp only [if_true]
      rw [Sem.bind_ok (r_size hi w)]
      simp only [Sem.run_pure, emb]
      congr 2
      rw [embs_map, embs_map, ← Array.toList_inj, Array.toList_extract]
      simp [List.extract_eq_take_drop, List.map_take, List.map_drop]
    · cases hp
  | false =>
    rw [ha] at hp
    simp only [cond_false] at hp
    rw [lget_eq] at hp
    refine ⟨(wfs_iff _).1 hc v (List.mem_of_getElem? hp), ?_⟩
    have : (⟨embs σ cs⟩ : Array Value)[off]? = some (emb σ v) := by
      rw [embs_map]; simp [hp]
    simp only [Bool.false_eq_true, if_false, this, Sem.run_pure]
theorem fieldOf_ok (hE : EnvOk E P) {t : TypeId} {T : MT} {f : Nat} {F : Field} (hT : E.ty.get t = some T) (hf : fieldOf T f = some F) :
    ∃ fs, P.underlying t = some (.struct fs) ∧ fs[f]? = some F := by
  obtain ⟨hi, hu⟩ := hE.ty t T hT
  unfold fieldOf at hf
  split at hf
  · rename_i fs hs
    rw [hs] at hu
    rw [lget_eq] at hf
    exact ⟨fs, hu, by simpa using hf⟩
  · cases hf
theorem field_ok (hE : EnvOk E P) (hev : EvR σ V ev ρ) {t : TypeId} {x : Operand} {f : Nat} {v : MV} (ho : oField E ev t x f = some (.val v)) (w : World) :
    wf σ V v ∧ (Instr.field t (ρ x) f).run P w = .ok (emb σ v) w := by
  unfold oField at ho
  split at ho
  · rename_i T cs hT hx
    split at ho
    · rename_i F hF
      split at ho
      · rename_i FT hFT
        obtain ⟨h1, h2⟩ := hev x _ hx
        simp only [wf] at h1
        obtain ⟨fs, hu, hf⟩ := fieldOf_ok hE hT hF
        have := part_ok hE hFT h1.1 h1.2 (vR_some ho) w
        refine ⟨this.1, ?_⟩
        unfold Instr.field
        rw [Sem.bind_ok (r_und hu w), h2]
        simp only [hf, emb, asAgg, pure_bind]
        exact this.2
      · cases ho
    · cases ho
  · cases ho
theorem sizeE_ok (hE : EnvOk E P) {t : TypeId} {n : Nat} (hs : sizeE E t = some n) (w : World) : (sizeOf t).run P w = .ok n w := by
  unfold sizeE at hs
  split at hs
  · rename_i T hT
    cases hs
    exact r_size (hE.ty t T hT).1 w
  · cases hs
theorem fieldAddr_ok (hE : EnvOk E P) (hev : EvR σ V ev ρ) {t : TypeId} {x : Operand} {f : Nat} {v : MV} (ho : oFieldAddr E ev t x f = some (.val v)) (w : World) :
    wf σ V v ∧ (Instr.fieldAt t (ρ x) f).run P w = .ok (emb σ v) w := by
  unfold oFieldAddr at ho
  split at ho
  · rename_i T id off hT hx
    split at ho
    · rename_i F hF
      split at ho
      · rename_i n hn
        cases hz : Nat.beq n 0 with
        | true => simp [hz] at ho
        | false =>
          simp only [hz, cond_false, Option.some.injEq, MR.val.injEq] at ho
          subst ho
          have hn0 : n ≠ 0 := fun e => by subst e; cases hz
          obtain ⟨h1, h2⟩ := hev x _ hx
          simp only [wf] at h1
          obtain ⟨fs, hu, hf⟩ := fieldOf_ok hE hT hF
          refine ⟨h1, ?_⟩
          unfold Instr.fieldAt
          rw [Sem.bind_ok (r_und hu w), h2]
          simp only [hf, emb, Instr.sureAddr, pure_bind]
          unfold fieldPlace
          rw [bind_assoc, Sem.bind_ok (sizeE_ok hE hn w)]
          simp only [hn0, if_false, pure_bind, Sem.run_pure, Addr.add_lit]
          simp [Nat.add_assoc]
      · cases ho
    · cases ho
  · cases ho
omit O in
theorem natOf_ok {v : MV} {n : Nat} (hn : natOf v = some n) : ∃ k, v = .int k (.ofNat n) := by
  unfold natOf at hn
  split at hn
  · cases hn; exact ⟨_, rfl⟩
  · cases hn
theorem evN_ok (hev : EvR σ V ev ρ) {x : Operand} {n : Nat} (hn : evN ev x = some n) : ∃ k, ρ x = .int k (.ofNat n) := by
  unfold evN at hn
  split at hn
  · rename_i v hv
    obtain ⟨k, rfl⟩ := natOf_ok hn
    exact ⟨k, (hev x _ hv).2⟩
  · cases hn
theorem elemPtr_ok (hE : EnvOk E P) {e : TypeId} {id off len i : Nat} {v : MV} (hv : V id) (ho : elemPtr E e id off len i = some (.val v)) (w : World) :
    wf σ V v ∧ i < len ∧ ∃ n, (sizeOf e).run P w = .ok n w ∧ emb σ v = .pointer (some ⟨(σ id).blk, (σ id).off + off + i * n, none⟩) := by
  unfold elemPtr at ho
  split at ho
  · rename_i n hn
    cases hb : Nat.blt i len with
    | false => simp [hb] at ho
    | true =>
      simp only [hb, cond_true, Option.some.injEq, MR.val.injEq] at ho
      subst ho
      exact ⟨hv, by simpa [Nat.blt_eq] using hb, n, sizeE_ok hE hn w, by simp [emb, Nat.add_assoc]⟩
  · cases ho
theorem indexAddr_ok (hE : EnvOk E P) (hev : EvR σ V ev ρ) {t : TypeId} {x i : Operand} {v : MV} (ho : oIndexAddr E ev t x i = some (.val v)) (w : World) :
    wf σ V v ∧ (Instr.indexAt t (ρ x) (ρ i)).run P w = .ok (emb σ v) w := by
  unfold oIndexAddr at ho
  split at ho
  · rename_i T xv n hT hx hn
    obtain ⟨k, hk⟩ := evN_ok hev hn
    obtain ⟨h1, h2⟩ := hev x _ hx
    obtain ⟨hi, hu⟩ := hE.ty t T hT
    unfold Instr.indexAt
    rw [hk]
    simp only [asIntOf, pure_bind]
    rw [Sem.bind_ok (r_und hu w), h2]
    split at ho
    · rename_i m e id off hd
      simp only [wf] at h1
      obtain ⟨g1, g2, s, g3, g4⟩ := elemPtr_ok (σ := σ) (V := V) hE h1 ho w
      refine ⟨g1, ?_⟩
      simp only [hd, emb, Instr.sureAddr, pure_bind]
      rw [Sem.bind_ok (r_und hu w)]
      have hlt : (0 : Int) ≤ Int.ofNat n ∧ Int.ofNat n < (m : Int) := ⟨Int.natCast_nonneg n, by simpa using g2⟩
      simp only [hlt, and_self, if_true]
      rw [Sem.bind_ok g3]
      simp only [Sem.run_pure, Addr.add_lit, g4]
      rfl
    · rename_i e id off len cap hd
      simp only [wf] at h1
      obtain ⟨g1, g2, s, g3, g4⟩ := elemPtr_ok (σ := σ) (V := V) hE h1.1 ho w
      refine ⟨g1, ?_⟩
      simp only [hd, emb]
      rw [Sem.bind_ok (r_und hu w)]
      have hlt : (0 : Int) ≤ Int.ofNat n ∧ Int.ofNat n < (len : Int) := ⟨Int.natCast_nonneg n, by simpa using g2⟩
      simp only [hlt, and_self, if_true]
      rw [Sem.bind_ok g3]
      simp only [Sem.run_pure, Addr.add_lit, g4]
      rfl
    · rename_i e id off l len hd
      simp only [wf] at h1
      obtain ⟨g1, g2, s, g3, g4⟩ := elemPtr_ok (σ := σ) (V := V) hE h1.1 ho w
      refine ⟨g1, ?_⟩
      simp only [hd, emb]
      rw [Sem.bind_ok (r_und hu w)]
      have hlt : (0 : Int) ≤ Int.ofNat n ∧ Int.ofNat n < (len : Int) := ⟨Int.natCast_nonneg n, by simpa using g2⟩
      simp only [hlt, and_self, if_true]
      rw [Sem.bind_ok g3]
      simp only [Sem.run_pure, Addr.add_lit, g4]
      rfl
    · cases ho
  · cases ho
end looks
end Go.Mini
/- The evaluator's operations against the model's: comparisons, reckoning, conversions. -/
namespace Go.Mini
variable [O : Opq]
open Go.RowKit
theorem pureV_ok {P : Program} {s : Sem Value} {m : MV} (σ : Sg) (V : Nat → Prop) (h : pureV s = some m) (w : World) : wf σ V m ∧ s.run P w = .ok (emb σ m) w := by
  unfold pureV at h
  split at h
  · rename_i v
    obtain ⟨h1, h2⟩ := ofV_ok σ V v m h
    exact ⟨h2, by rw [h1]; rfl⟩
  · cases h
/-! ### Strings -/
omit O in
theorem bytesV_list (a : List Nat) : (bytesV a).toList = a.map UInt8.ofNat := by simp [bytesV]
omit O in
theorem u8_inj {a b : Nat} (ha : a < 256) (hb : b < 256) (h : UInt8.ofNat a = UInt8.ofNat b) : a = b := by
  have := congrArg UInt8.toNat h
  simp at this
  omega
omit O in
theorem u8_map_inj : ∀ {a b : List Nat}, (∀ x ∈ a, x < 256) → (∀ x ∈ b, x < 256) → (a.map UInt8.ofNat = b.map UInt8.ofNat ↔ a = b) := by
  intro a
  induction a with
  | nil => intro b _ _; cases b <;> simp
  | cons x a ih =>
    intro b ha hb
    cases b with
    | nil => simp
    | cons y b =>
      simp only [List.map_cons, List.cons.injEq]
      rw [ih (fun z hz => ha z (by simp [hz])) (fun z hz => hb z (by simp [hz]))]
      constructor
      · rintro ⟨h1, h2⟩; exact ⟨u8_inj (ha x (by simp)) (hb y (by simp)) h1, h2⟩
      · rintro ⟨h1, h2⟩; exact ⟨by rw [h1], h2⟩
omit O in
theorem beqs_eq : ∀ (a b : List Nat), beqs a b = decide (a = b) := by
  intro a
  induction a with
  | nil => intro b; cases b <;> rfl
  | cons x a ih =>
    intro b
    cases b with
    | nil => rfl
    | cons y b =>
      show and (Nat.beq x y) (beqs a b) = _
      rw [ih b]
      by_cases hx : x = y
      · subst hx; simp
      · have : Nat.beq x y = false := by cases hb : Nat.beq x y; rfl; exact absurd (Nat.eq_of_beq_eq_true hb) hx
        simp [this, hx]
omit O in
theorem bless_eq : ∀ (a b : List Nat), (∀ x ∈ a, x < 256) → (∀ x ∈ b, x < 256) → bless a b = Op.bytesLess (a.map UInt8.ofNat) (b.map UInt8.ofNat) := by
  intro a
  induction a with
  | nil => intro b _ _; cases b <;> rfl
  | cons x a ih =>
    intro b ha hb
    cases b with
    | nil => rfl
    | cons y b =>
      have hx := ha x (by simp)
      have hy := hb y (by simp)
      show or (Nat.blt x y) (and (Nat.beq x y) (bless a b)) = _
      rw [ih b (fun z hz => ha z (by simp [hz])) (fun z hz => hb z (by simp [hz]))]
      simp only [List.map_cons, Op.bytesLess]
      have e1 : Nat.blt x y = decide (UInt8.ofNat x < UInt8.ofNat y) := by
        rw [Bool.eq_iff_iff]
        simp only [Nat.blt_eq, decide_eq_true_eq, UInt8.lt_iff_toNat_lt]
        simp
        rw [Nat.mod_eq_of_lt hx, Nat.mod_eq_of_lt hy]
      have e2 : Nat.beq x y = (UInt8.ofNat x == UInt8.ofNat y) := by
        rw [Bool.eq_iff_iff, beq_iff_eq]
        exact ⟨fun h => by rw [Nat.eq_of_beq_eq_true h], fun h => by rw [u8_inj hx hy h]; exact Nat.beq_refl y⟩
      rw [e1, e2]
omit O in
theorem bytesV_size (a : List Nat) : (bytesV a).size = a.length := by simp [bytesV, ByteArray.size]
omit O in
theorem bytesV_append (a b : List Nat) : bytesV a ++ bytesV b = bytesV (a ++ b) := by
  apply ByteArray.ext
  rw [ByteArray.data_append]
  simp [bytesV]
omit O in
theorem byteArray_beq (a b : ByteArray) : (a == b) = decide (a.toList = b.toList) := by
  obtain ⟨⟨x⟩⟩ := a
  obtain ⟨⟨y⟩⟩ := b
  have e : ((ByteArray.mk ⟨x⟩) == (ByteArray.mk ⟨y⟩)) = ((⟨x⟩ : Array UInt8) == ⟨y⟩) := rfl
  rw [e, Bool.eq_iff_iff]
  simp
section ops
variable {E : Env} {P : Program} {B : Nat → Prop} {W0 : World} {σ : Sg} {V : Nat → Prop} {h : MH} {w : World} {ev : Ev} {ρ : Operand → Value}
theorem strOp_ok {op : BinOp} {a b : List Nat} {m : MV} (ha : ∀ x ∈ a, x < 256) (hb : ∀ x ∈ b, x < 256) (ho : strOp op a b = some m) (w : World) :
    wf σ V m ∧ (Op.stringOp op (bytesV a) (bytesV b)).run P w = .ok (emb σ m) w := by
  have heq : ((bytesV a).toList == (bytesV b).toList) = beqs a b := by
    rw [bytesV_list, bytesV_list, beqs_eq, Bool.eq_iff_iff]
    simp only [beq_iff_eq, decide_eq_true_eq]
    exact u8_map_inj ha hb
  have hlt : Op.bytesLess (bytesV a).toList (bytesV b).toList = bless a b := by rw [bytesV_list, bytesV_list, bless_eq a b ha hb]
  unfold strOp at ho
  unfold Op.stringOp
  simp only [heq, hlt]
  cases op <;> simp only at ho
  case add =>
    cases hc : Nat.ble (Nat.add (llen a 0) (llen b 0)) 1048576 with
    | false => rw [hc] at ho; cases ho
    | true =>
      rw [hc] at ho
      simp only [cond_true, Option.some.injEq] at ho
      subst ho
      rw [llen_eq, llen_eq] at hc
      have hc' := Nat.le_of_ble_eq_true hc
      simp only [Nat.add_zero, Nat.add_eq] at hc'
      refine ⟨by simp only [wf, List.mem_append]; rintro x (hx | hx); exact ha x hx; exact hb x hx, ?_⟩
      rw [bytesV_size, bytesV_size, if_neg (by simp only [IntKind.max, IntKind.signed, IntKind.bits]; simp; omega)]
      simp only [Sem.run_pure, emb, bytesV_append]
  all_goals first | (cases ho; done) | (simp only [Option.some.injEq] at ho; subst ho; exact ⟨trivial, rfl⟩)
theorem isSl_emb {y : MV} (h : isSl y = true) : ∃ a n c, emb σ y = .slice (some a) n c := by
  cases y <;> simp only [isSl, Bool.false_eq_true] at h <;> exact ⟨_, _, _, rfl⟩
theorem isFn_emb {y : MV} (h : isFn y = true) : ∃ f a b, emb σ y = .func f a b := by
  cases y <;> simp only [isFn, Bool.false_eq_true] at h <;> exact ⟨_, _, _, rfl⟩
theorem eqM_ok {t : TypeId} {d : TypeDesc} {x y : MV} {b : Bool} (hu : P.underlying t = some d) (hx : wf σ V x) (hy : wf σ V y) (he : eqM d x y = some b) (n : Nat) (w : World) :
    (Op.equalIn (n + 1) t (emb σ x) (emb σ y)).run P w = .ok b w := by
  unfold Op.equalIn
  rw [Sem.bind_ok (r_und hu w)]
  unfold eqM at he
  cases d <;> simp only at he
  case bool =>
    split at he
    · cases he; rfl
    · cases he
  case int k0 =>
    split at he
    · rename_i k a k' b'
      by_cases hk : k = k'
      · subst hk
        simp only [decide_true, cond_true, Option.some.injEq] at he
        subst he
        simp only [emb]
        simp
        rfl
      · simp [hk] at he
    · cases he
  case string =>
    split at he
    · rename_i a b'
      simp only [Option.some.injEq] at he
      subst he
      simp only [wf] at hx hy
      simp only [emb, Sem.run_pure]
      congr 1
      rw [beqs_eq, byteArray_beq, bytesV_list, bytesV_list, Bool.eq_iff_iff]
      simp only [decide_eq_true_eq]
      exact u8_map_inj hx hy
    · cases he
  case pointer e =>
    split at he <;> first | (cases he; done) | (simp only [Option.some.injEq] at he; subst he; simp [emb])
  case slice e =>
    split at he
    · cases he; simp [emb]
    · cases hs : isSl y with
      | false => rw [hs] at he; cases he
      | true =>
        rw [hs] at he; cases he
        obtain ⟨a, m, c, hy'⟩ := isSl_emb (σ := σ) hs
        simp [emb, hy']
    · cases hs : isSl x with
      | false => rw [hs] at he; cases he
      | true =>
        rw [hs] at he; cases he
        obtain ⟨a, m, c, hx'⟩ := isSl_emb (σ := σ) hs
        simp [emb, hx']
    · cases he
  case map k e =>
    split at he <;> first | (cases he; done) | (simp only [Option.some.injEq] at he; subst he; simp [emb])
  case func a b' c =>
    split at he
    · cases he; simp [emb]
    · cases hs : isFn y with
      | false => rw [hs] at he; cases he
      | true =>
        rw [hs] at he; cases he
        obtain ⟨f, p, q, hy'⟩ := isFn_emb (σ := σ) hs
        simp [emb, hy']
    · cases hs : isFn x with
      | false => rw [hs] at he; cases he
      | true =>
        rw [hs] at he; cases he
        obtain ⟨f, p, q, hx'⟩ := isFn_emb (σ := σ) hs
        simp [emb, hx']
    · cases he
  all_goals cases he
end ops
end Go.Mini
/- The evaluator's operations against the model's: structs compared, binary and unary operations, conversions, slices, lookups, builds. -/
namespace Go.Mini
variable [O : Opq]
open Go.RowKit
section ops
variable {E : Env} {P : Program} {B : Nat → Prop} {W0 : World} {σ : Sg} {V : Nat → Prop} {h : MH} {w : World} {ev : Ev} {ρ : Operand → Value}
omit O in
theorem eqFields_cons (f : Field) (fs : List Field) (xs ys : List MV) : eqFields E (f :: fs) xs ys = (match tyOf E f.type with
    | some F => cond (or (aggT F) (decide (f.name = "_"))) none (match lget xs f.offset, lget ys f.offset with
      | some x, some y => match eqM F.und x y with
        | some true => eqFields E fs xs ys
        | some false => some false
        | none => none
      | _, _ => none)
    | none => none) := rfl
theorem fields_eq (hE : EnvOk E P) {xs ys : List MV} (hx : wfs σ V xs) (hy : wfs σ V ys) (h1 : ones xs = true) (h2 : ones ys = true) (n : Nat) (w : World) :
    ∀ (fs : List Field) (b : Bool), eqFields E fs xs ys = some b →
      (forIn (m := Sem) fs ((none, ()) : Option Bool × Unit) (fun f _ => do
        if f.name ≠ "_" then
          if !(← Op.equalIn (n + 1) f.type (← part f.type ⟨embs σ xs⟩ f.offset) (← part f.type ⟨embs σ ys⟩ f.offset)) then
            pure (ForInStep.done (some false, ()))
          else pure (ForInStep.yield (none, ()))
        else pure (ForInStep.yield (none, ())))).run P w = .ok (if b then (none, ()) else (some false, ())) w := by
  intro fs
  induction fs with
  | nil => intro b hb; have e : eqFields E [] xs ys = some true := rfl
           rw [e] at hb; cases hb; rfl
  | cons f fs ih =>
    intro b hb
    rw [eqFields_cons] at hb
    split at hb
    · rename_i F hF
      cases hc : (or (aggT F) (decide (f.name = "_"))) with
      | true => rw [hc] at hb; cases hb
      | false =>
        rw [hc] at hb
        simp only [cond_false] at hb
        simp only [Bool.or_eq_false_iff, decide_eq_false_iff_not] at hc
        split at hb
        · rename_i x y hlx hly
          have px : partOf F xs f.offset = some x := by unfold partOf; rw [hc.1]; exact hlx
          have py : partOf F ys f.offset = some y := by unfold partOf; rw [hc.1]; exact hly
          obtain ⟨wx, rx⟩ := part_ok hE hF hx h1 px w
          obtain ⟨wy, ry⟩ := part_ok hE hF hy h2 py w
          have hu := (hE.ty _ F hF).2
          simp only [List.forIn_cons]
          split at hb
          · rename_i he
            have hq := eqM_ok (P := P) (σ := σ) (V := V) hu wx wy he n w
            simp only [hc.2, ne_eq, not_false_eq_true, if_true, bind_assoc]
            rw [Sem.bind_ok rx, Sem.bind_ok ry, Sem.bind_ok hq]
            simp only [Bool.not_true, Bool.false_eq_true, if_false, pure_bind]
            exact ih b hb
          · rename_i he
            have hq := eqM_ok (P := P) (σ := σ) (V := V) hu wx wy he n w
            cases hb
            simp only [hc.2, ne_eq, not_false_eq_true, if_true, bind_assoc]
            rw [Sem.bind_ok rx, Sem.bind_ok ry, Sem.bind_ok hq]
            simp
          · cases hb
        · cases hb
    · cases hb
theorem structs_eq (hE : EnvOk E P) {t : TypeId} {fs : Array Field} {xs ys : List MV} {b : Bool} (hu : P.underlying t = some (.struct fs)) (hs : P.stoodInHeld t = false)
    (hx : wfs σ V xs) (hy : wfs σ V ys) (h1 : ones xs = true) (h2 : ones ys = true) (he : eqFields E fs.toList xs ys = some b) (w : World) :
    (Op.equal t (.agg ⟨embs σ xs⟩) (.agg ⟨embs σ ys⟩)).run P w = .ok b w := by
  have key := fields_eq hE hx hy h1 h2 9998 w fs.toList b he
  unfold Op.equal Op.maxDepth
  unfold Op.equalIn
  rw [Sem.bind_ok (r_und hu w)]
  simp only []
  rw [Sem.bind_ok (show (program).run P w = .ok P w from rfl)]
  simp only [hs, Bool.false_eq_true, if_false]
  rw [← Array.forIn_toList]
  rw [Sem.bind_ok key]
  cases b <;> rfl
/-! ### Binary and unary operations -/
omit O in
theorem eqGuard_ok {op : BinOp} {t : TypeId} {x y : Operand} {a b : Value} (ha : a ≠ .nilIface) (hb : ∀ c, a ≠ .agg c) (w : World) : (eqGuard op t x y a b).run P w = .ok () w := by
  unfold eqGuard
  cases a <;> first | exact absurd rfl ha | exact absurd rfl (hb _) | (cases op <;> rfl)
omit O in
theorem binOp_int (op : BinOp) (t : TypeId) (k k' : IntKind) (a b : Int) : binOp op t (.int k a) (.int k' b) = binOp op 0 (.int k a) (.int k' b) := by cases op <;> rfl
omit O in
theorem binOp_str (op : BinOp) (t : TypeId) (a b : ByteArray) : binOp op t (.string a) (.string b) = Op.stringOp op a b := by cases op <;> rfl
theorem binOp_eql {t : TypeId} {x y : MV} (hp : pairOk x y = true) : binOp .eql t (emb σ x) (emb σ y) = (do pure (.bool (← Op.equal t (emb σ x) (emb σ y)))) := by
  cases x <;> cases y <;> first | (simp only [pairOk, Bool.false_eq_true] at hp; done) | rfl
theorem binOp_neq {t : TypeId} {x y : MV} (hp : pairOk x y = true) : binOp .neq t (emb σ x) (emb σ y) = (do pure (.bool (!(← Op.equal t (emb σ x) (emb σ y))))) := by
  cases x <;> cases y <;> first | (simp only [pairOk, Bool.false_eq_true] at hp; done) | rfl
theorem pairOk_plain {x y : MV} (hp : pairOk x y = true) : emb σ x ≠ .nilIface ∧ ∀ c, emb σ x ≠ .agg c := by
  cases x <;> first | (constructor <;> simp [emb]; done) | (exfalso; cases y <;> simp [pairOk] at hp)
theorem binM_ok (hE : EnvOk E P) {op : BinOp} {t : TypeId} {x y : MV} {v : MV} (hx : wf σ V x) (hy : wf σ V y) (ho : binM E op t x y = some v) (xo yo : Operand) (w : World) :
    wf σ V v ∧ (do eqGuard op t xo yo (emb σ x) (emb σ y); binOp op t (emb σ x) (emb σ y)).run P w = .ok (emb σ v) w := by
  unfold binM at ho
  split at ho
  · rename_i k a k' b
    unfold intOp at ho
    obtain ⟨h1, h2⟩ := pureV_ok (P := P) σ V ho w
    refine ⟨h1, ?_⟩
    rw [Sem.bind_ok (eqGuard_ok (by simp [emb]) (by simp [emb]) w)]
    simp only [emb]
    rw [binOp_int]; exact h2
  · rename_i a b
    simp only [wf] at hx hy
    obtain ⟨h1, h2⟩ := strOp_ok (P := P) (σ := σ) (V := V) hx hy ho w
    refine ⟨h1, ?_⟩
    rw [Sem.bind_ok (eqGuard_ok (by simp [emb]) (by simp [emb]) w)]
    simp only [emb]
    rw [binOp_str]; exact h2
  · cases hp : pairOk x y with
    | false => rw [hp] at ho; cases ho
    | true =>
      rw [hp] at ho
      simp only [cond_true] at ho
      obtain ⟨p1, p2⟩ := pairOk_plain (σ := σ) hp
      rw [Sem.bind_ok (eqGuard_ok p1 p2 w)]
      split at ho
      · rename_i T hT
        have hu := (hE.ty t T hT).2
        split at ho
        · split at ho
          · rename_i b hb
            cases ho
            refine ⟨trivial, ?_⟩
            rw [binOp_eql hp]
            exact (Sem.bind_ok (eqM_ok (P := P) hu hx hy hb 9999 w)).trans rfl
          · cases ho
        · split at ho
          · rename_i b hb
            cases ho
            refine ⟨trivial, ?_⟩
            rw [binOp_neq hp]
            exact (Sem.bind_ok (eqM_ok (P := P) hu hx hy hb 9999 w)).trans rfl
          · cases ho
        · cases ho
      · cases ho
omit O in
theorem eqGuard_agg {op : BinOp} {t : TypeId} {x y : Operand} {a b : Array Value} (hg : P.eqGuardType P.depth t = false) (w : World) : (eqGuard op t x y (.agg a) (.agg b)).run P w = .ok () w := by
  unfold eqGuard
  cases op <;> first | rfl | (simp [hg])
omit O in
theorem eqGuard_const {op : BinOp} {t : TypeId} {x y : Operand} (hq : or (isConst x) (isConst y) = true) (w : World) : (eqGuard op t x y .nilIface .nilIface).run P w = .ok () w := by
  unfold eqGuard
  cases x <;> cases y <;> first | (cases hq; done) | (cases op <;> rfl)
omit O in
theorem nil_equal {t : TypeId} {ms : Array (String × TypeId)} (hu : P.underlying t = some (.interface ms)) (w : World) : (Op.equal t .nilIface .nilIface).run P w = .ok true w := by
  unfold Op.equal Op.maxDepth
  unfold Op.equalIn
  rw [Sem.bind_ok (r_und hu w)]
  rfl
theorem bin0_ok (hE : EnvOk E P) (hev : EvR σ V ev ρ) {op : BinOp} {t : TypeId} {x y : Operand} {v : MV} (ho : oBin0 E ev op t x y = some (.val v)) (w : World) :
    wf σ V v ∧ (do eqGuard op t x y (ρ x) (ρ y); binOp op t (ρ x) (ρ y)).run P w = .ok (emb σ v) w := by
  unfold oBin0 at ho
  split at ho
  · rename_i a b hx hy
    obtain ⟨h1, h2⟩ := hev x _ hx
    obtain ⟨h3, h4⟩ := hev y _ hy
    simp only [wf] at h1 h3
    rw [h2, h4]
    split at ho
    · rename_i T hT
      have hu := (hE.ty t T hT).2
      split at ho
      · rename_i fs hd
        rw [hd] at hu
        cases hc : E.cmp t with
        | false => rw [hc] at ho; cases ho
        | true =>
          rw [hc] at ho
          simp only [cond_true] at ho
          obtain ⟨c1, c2⟩ := hE.cmp t hc
          split at ho
          · rename_i r hr
            cases ho
            refine ⟨trivial, ?_⟩
            simp only [emb]
            rw [Sem.bind_ok (eqGuard_agg c1 w)]
            exact (Sem.bind_ok (structs_eq hE hu c2 h1.1 h3.1 h1.2 h3.2 hr w)).trans rfl
          · cases ho
      · rename_i fs hd
        rw [hd] at hu
        cases hc : E.cmp t with
        | false => rw [hc] at ho; cases ho
        | true =>
          rw [hc] at ho
          simp only [cond_true] at ho
          obtain ⟨c1, c2⟩ := hE.cmp t hc
          split at ho
          · rename_i r hr
            cases ho
            refine ⟨trivial, ?_⟩
            simp only [emb]
            rw [Sem.bind_ok (eqGuard_agg c1 w)]
            exact (Sem.bind_ok (structs_eq hE hu c2 h1.1 h3.1 h1.2 h3.2 hr w)).trans rfl
          · cases ho
      · cases ho
    · cases ho
  · rename_i hx hy
    rw [(hev x _ hx).2, (hev y _ hy).2]
    cases hq : or (isConst x) (isConst y) with
    | false => rw [hq] at ho; cases ho
    | true =>
      rw [hq] at ho
      simp only [cond_true] at ho
      simp only [emb]
      rw [Sem.bind_ok (eqGuard_const hq w)]
      split at ho
      · rename_i T hT
        have hu := (hE.ty t T hT).2
        split at ho
        · rename_i ms hd
          rw [hd] at hu
          cases ho
          exact ⟨trivial, (Sem.bind_ok (nil_equal hu w)).trans rfl⟩
        · rename_i ms hd
          rw [hd] at hu
          cases ho
          exact ⟨trivial, (Sem.bind_ok (nil_equal hu w)).trans rfl⟩
        · cases ho
      · cases ho
  · rename_i xv yv hx hy
    obtain ⟨h1, h2⟩ := hev x _ hx
    obtain ⟨h3, h4⟩ := hev y _ hy
    rw [h2, h4]
    exact binM_ok hE h1 h3 (vR_some ho) x y w
  · cases ho
theorem bin_ok (hE : EnvOk E P) (hev : EvR σ V ev ρ) {op : BinOp} {t : TypeId} {x y : Operand} {v : MV} (ho : oBin E ev op t x y = some (.val v)) (w : World) :
    wf σ V v ∧ (do eqGuard op t x y (ρ x) (ρ y); binOp op t (ρ x) (ρ y)).run P w = .ok (emb σ v) w := by
  unfold oBin at ho
  split at ho
  · rename_i u hu
    cases ho
    unfold oSym at hu
    split at hu
    · rename_i a b hx hy
      obtain ⟨h1, h2⟩ := hev x _ hx
      obtain ⟨h3, h4⟩ := hev y _ hy
      obtain ⟨k1, k2, k3⟩ := hE.bo op t a b _ hu σ V h1 h3
      refine ⟨k1, ?_⟩
      rw [h2, h4, Sem.bind_ok (eqGuard_ok k2.1 k2.2 w)]
      exact k3 w
    · cases hu
  · exact bin0_ok hE hev ho w
theorem un_ok (hev : EvR σ V ev ρ) {op : UnOp} {x : Operand} {v : MV} (ho : oUn ev op x = some (.val v)) (w : World) :
    wf σ V v ∧ (Op.unary op (ρ x)).run P w = .ok (emb σ v) w := by
  unfold oUn at ho
  split at ho
  · rename_i b hx
    rw [(hev x _ hx).2]
    split at ho
    · cases ho; exact ⟨trivial, rfl⟩
    · cases ho
  · rename_i k n hx
    rw [(hev x _ hx).2]
    exact pureV_ok σ V (vR_some ho) w
  · cases ho
theorem pick_ok (hev : EvR σ V ev ρ) {c a b : Operand} {v : MV} (ho : oPick ev c a b = some (.val v)) (w : World) :
    wf σ V v ∧ (do pure (.value (if ← asBool (ρ c) then ρ a else ρ b)) : Sem Next).run P w = .ok (.value (emb σ v)) w := by
  unfold oPick at ho
  split at ho
  · rename_i t hc
    rw [(hev c _ hc).2]
    simp only [emb, asBool, pure_bind, Sem.run_pure]
    cases t with
    | true => obtain ⟨h1, h2⟩ := hev a v (vR_some ho); exact ⟨h1, by simp [h2]⟩
    | false => obtain ⟨h1, h2⟩ := hev b v (vR_some ho); exact ⟨h1, by simp [h2]⟩
  · cases ho
theorem nilCheck_ok (hev : EvR σ V ev ρ) {o : Oper} {x : Operand} {v : MV} (hop : o.op = .nilCheck x) (ho : oNilCheck ev x = some (.val v)) (w : World) :
    wf σ V v ∧ (execOp ρ o).run P w = .ok (.value (emb σ v)) w := by
  unfold oNilCheck at ho
  unfold execOp
  simp only [hop]
  split at ho
  · rename_i hx; obtain ⟨h1, h2⟩ := hev x _ hx; cases ho; exact ⟨h1, by rw [h2]; rfl⟩
  · rename_i hx; obtain ⟨h1, h2⟩ := hev x _ hx; cases ho; exact ⟨h1, by rw [h2]; rfl⟩
  · rename_i hx; obtain ⟨h1, h2⟩ := hev x _ hx; cases ho; exact ⟨h1, by rw [h2]; rfl⟩
  · rename_i hx; obtain ⟨h1, h2⟩ := hev x _ hx; cases ho; exact ⟨h1, by rw [h2]; rfl⟩
  · cases ho
theorem makeFunc_ok (hev : EvR σ V ev ρ) {fn : Fn} {first captured : Array Operand} {v : MV} (ho : oMakeFunc ev fn first captured = some (.val v)) (w : World) :
    wf σ V v ∧ (Instr.makeFunc fn (first.map ρ) (captured.map ρ)).run P w = .ok (emb σ v) w := by
  unfold oMakeFunc at ho
  split at ho
  · rename_i f a b ha hb
    cases ho
    obtain ⟨h1, h2⟩ := evs_ok hev _ _ ha
    obtain ⟨h3, h4⟩ := evs_ok hev _ _ hb
    refine ⟨by simp only [wf]; exact ⟨h1, h3⟩, ?_⟩
    unfold Instr.makeFunc
    simp only [Sem.run_pure, emb, ← h2, ← h4]
    congr 3 <;> (rw [← Array.toList_inj]; simp)
  · cases ho
theorem extract_ok (hev : EvR σ V ev ρ) {t : Operand} {i : Nat} {v : MV} (ho : oExtract ev t i = some (.val v)) (w : World) :
    wf σ V v ∧ (Instr.extract (ρ t) i).run P w = .ok (emb σ v) w := by
  unfold oExtract at ho
  split at ho
  · rename_i vs ht
    obtain ⟨h1, h2⟩ := hev t _ ht
    simp only [wf] at h1
    have hl := vR_some ho
    rw [lget_eq] at hl
    refine ⟨(wfs_iff _).1 h1 v (List.mem_of_getElem? hl), ?_⟩
    rw [h2]
    have : (⟨embs σ vs⟩ : Array Value)[i]? = some (emb σ v) := by rw [embs_map]; simp [hl]
    simp only [emb, Instr.extract, this, Sem.run_pure]
  · cases ho
theorem index_ok (hE : EnvOk E P) (hev : EvR σ V ev ρ) {t : TypeId} {x i : Operand} {v : MV} (ho : oIndex E ev t x i = some (.val v)) (w : World) :
    wf σ V v ∧ (Instr.index t (ρ x) (ρ i)).run P w = .ok (emb σ v) w := by
  unfold oIndex at ho
  split at ho
  · rename_i T xv n hT hx hn
    obtain ⟨k, hk⟩ := evN_ok hev hn
    obtain ⟨h1, h2⟩ := hev x _ hx
    obtain ⟨hi, hu⟩ := hE.ty t T hT
    unfold Instr.index
    rw [hk]
    simp only [asIntOf, pure_bind]
    rw [Sem.bind_ok (r_und hu w), h2]
    split at ho
    · rename_i m e cs hd
      simp only [wf] at h1
      split at ho
      · rename_i Te hTe
        cases hb : Nat.blt n m with
        | false => rw [hb] at ho; cases ho
        | true =>
          rw [hb] at ho
          simp only [cond_true] at ho
          have hlt : (0 : Int) ≤ Int.ofNat n ∧ Int.ofNat n < (m : Int) := ⟨Int.natCast_nonneg n, by simpa [Nat.blt_eq] using hb⟩
          have := part_ok hE hTe h1.1 h1.2 (vR_some ho) w
          refine ⟨this.1, ?_⟩
          simp only [hd, emb, hlt, and_self, if_true]
          rw [Sem.bind_ok (r_size (hE.ty e Te hTe).1 w)]
          exact this.2
      · cases ho
    · rename_i s hd
      simp only [wf] at h1
      split at ho
      · rename_i b hb
        cases ho
        rw [lget_eq] at hb
        have hlt : n < s.length := (List.getElem?_eq_some_iff.1 hb).1
        have hb256 := h1 b (List.mem_of_getElem? hb)
        refine ⟨trivial, ?_⟩
        have hsz : n < (bytesV s).size := by rw [bytesV_size]; exact hlt
        have hget : (bytesV s)[n]? = some (UInt8.ofNat b) := by
          rw [getElem?_pos (bytesV s) n hsz]
          congr 1
          have : (bytesV s)[n] = (s.map UInt8.ofNat)[n]'(by simpa using hlt) := by simp [bytesV, ByteArray.getElem_eq_getElem_data]
          rw [this, List.getElem_map]
          congr 1
          rw [List.getElem?_eq_getElem hlt] at hb
          exact Option.some.inj hb
        simp only [hd, emb, Int.ofNat_eq_natCast, Int.toNat_natCast, hget]
        congr 2
        simp
        omega
      · cases ho
    · cases ho
  · cases ho
end ops
end Go.Mini
