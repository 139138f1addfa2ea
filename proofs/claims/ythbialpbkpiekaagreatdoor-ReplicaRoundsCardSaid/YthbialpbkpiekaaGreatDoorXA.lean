/- Loads of whole structs, worlds later than a world: what every walk of these proofs uses. -/
import Derived.WalkKit
import Derived.WalkLawsBesides
import Derived.WalkSpells
import Derived.Deep.QuietTactic
import Derived.BigQuiet
import Derived.Deep.MidRow
import Derived.Lib.Hide
import Derived.KernelRfl
import Derived.Test.YthbialpbkpiekaaGreatDoorProg
namespace Go.WW
open Go.RowKit

/-! ### A run of cells, read whole -/

/-- The n cells of block b from o on, if they are there. -/
def row? (w : World) (b o n : Nat) : Option (Array Value) :=
  match w.heap[b]? with
  | some (.cells c _ _) => if o + n ≤ c.size then some (c.extract o (o + n)) else none
  | _ => none

theorem row?_of_block {w w' : World} {b : Nat} (h : w'.heap[b]? = w.heap[b]?) (o n : Nat) : row? w' b o n = row? w b o n := by simp [row?, h]

theorem row?_size {w : World} {b o n : Nat} {cs : Array Value} (h : row? w b o n = some cs) : cs.size = n := by
  unfold row? at h
  split at h
  · split at h
    · cases h; simp; omega
    · cases h
  · cases h

theorem row?_cell {w : World} {b o n : Nat} {cs : Array Value} (h : row? w b o n = some cs) (j : Nat) (hj : j < n) : w.cell? ⟨b, o + j, none⟩ = cs[j]? := by
  unfold row? at h
  split at h
  · rename_i c t f hb
    split at h
    · cases h
      rw [cell_of_row w b (o + j) c t f hb]
      simp [Array.getElem?_extract]
      intro h1; omega
    · cases h
  · cases h

theorem row?_lt {w : World} {b o n : Nat} {cs : Array Value} (h : row? w b o n = some cs) : b < w.heap.size := by
  unfold row? at h
  split at h
  · rename_i hb; exact (Array.getElem?_eq_some_iff.1 hb).1
  · cases h

theorem row?_rangeAt {w : World} {b o n : Nat} {cs : Array Value} (h : row? w b o n = some cs) : w.rangeAt b o cs.toList := by
  intro j v hv
  have hs := row?_size h
  have hj : j < n := by
    have := (List.getElem?_eq_some_iff.1 hv).1; simp at this; omega
  rw [row?_cell h j hj]; simpa using hv

/-- The load of a struct, kept whole from the walk's rules. -/
def structLoad (T : TypeId) (v : Value) : Sem Next := do pure (.value (← Instr.loadAt T v))

theorem execOp_structLoad (T : TypeId) (ρ : Operand → Value) (dst : Option Tmp) (x : Operand) (ty : TypeId) (pos : String) (after : Array Edge) (guard : Option (Nat × Bool)) :
    execOp ρ { dst, op := .load T x, type := ty, pos, after, guard } = structLoad T (ρ x) := rfl

/-- What a load of a struct gives, out of the cells that it finds. -/
def rowOut (P : Program) (T : TypeId) (w : World) (b o : Nat) : Option (Array Value) → Result Next
  | some cs => .ok (.value (.agg cs)) w
  | none => (structLoad T (.pointer (some ⟨b, o, none⟩))).run P w

theorem rowOut_some (P : Program) (T : TypeId) (w : World) (b o : Nat) (cs : Array Value) : rowOut P T w b o (some cs) = .ok (.value (.agg cs)) w := rfl

theorem run_structLoad {P : Program} {T : TypeId} {d : TypeDesc} {n : Nat} (hu : P.underlying T = some d) (hd : d.isRow = true) (hi : (P.info? T).map (·.size) = some n) (w : World) (b o : Nat) :
    (structLoad T (.pointer (some ⟨b, o, none⟩))).run P w = rowOut P T w b o (row? w b o n) := by
  cases h : row? w b o n with
  | none => rfl
  | some cs =>
    rw [rowOut_some]
    have hs := row?_size h
    have := run_loadAt_mid (P := P) w b o T cs.toList d (row?_rangeAt h) hu hd (by rw [hi]; simp [hs])
    simp only [structLoad, Sem.run_bind, this, Result.andThen_ok, Sem.run_pure]

theorem row?_alloc_whole {w : World} {cs : Array Value} {t : TypeId} {k n : Nat} (hk : k = w.heap.size) (hn : cs.size = n) : row? (w.alloc (.cells cs t)) k 0 n = some cs := by
  subst hk; subst hn
  have : (w.alloc (.cells cs t)).heap[w.heap.size]? = some (.cells cs t) := by show (w.heap.push _)[w.heap.size]? = _; simp
  unfold row?; rw [this]; simp

/-- A part of a row. -/
def subRow (cs : Array Value) (o n : Nat) : Option (Array Value) := if o + n ≤ cs.size then some (cs.extract o (o + n)) else none
theorem subRow_whole {cs : Array Value} {n : Nat} (hn : cs.size = n) : subRow cs 0 n = some cs := by subst hn; simp [subRow]
theorem row?_alloc_at {w : World} {cs : Array Value} {t : TypeId} {k o n : Nat} (hk : k = w.heap.size) : row? (w.alloc (.cells cs t)) k o n = subRow cs o n := by
  subst hk
  have : (w.alloc (.cells cs t)).heap[w.heap.size]? = some (.cells cs t) := by show (w.heap.push _)[w.heap.size]? = _; simp
  unfold row? subRow; rw [this]

theorem row?_alloc_past {w : World} {ob : Obj} {k o n : Nat} (hk : k < w.heap.size) : row? (w.alloc ob) k o n = row? w k o n :=
  row?_of_block (Below.heap_alloc w ob k hk) o n

theorem row?_drew (w : World) (k o n : Nat) : row? w.drew k o n = row? w k o n := rfl

theorem row?_setCell_other {w : World} {p : Addr} {v : Value} {k o n : Nat} (h : k ≠ p.block) : row? (w.setCell p v) k o n = row? w k o n :=
  row?_of_block (Below.heap_setCell w p v k h) o n

/-! ### A struct stored whole -/

/-- The store of a struct, kept whole from the walk's rules. -/
def structStore (T : TypeId) (p v : Value) : Sem Next := do Instr.storeAt T p v; pure .skip

/-- May n cells of block b be written from o on? -/
def canPut (w : World) (b o n : Nat) : Bool :=
  match w.heap[b]? with
  | some (.cells c _ f) => decide (o + n ≤ c.size) && decide (f = (0, 0))
  | _ => false

/-- The cells cs written into block b from o on. -/
def putRow (w : World) (b o : Nat) (cs : Array Value) : World := w.setCells b o cs.toList

def storeOut (P : Program) (T : TypeId) (w : World) (b o : Nat) (cs : Array Value) : Bool → Result Next
  | true => .ok .skip (putRow w b o cs)
  | false => (structStore T (.pointer (some ⟨b, o, none⟩)) (.agg cs)).run P w

theorem storeOut_true (P : Program) (T : TypeId) (w : World) (b o : Nat) (cs : Array Value) : storeOut P T w b o cs true = .ok .skip (putRow w b o cs) := rfl

theorem canPut_there {w : World} {b o n : Nat} (h : canPut w b o n = true) : w.there b o n := by
  unfold canPut at h
  split at h
  · rename_i c t f hb
    simp only [Bool.and_eq_true, decide_eq_true_eq] at h
    obtain ⟨h1, rfl⟩ := h
    intro j hj
    exact ⟨by rw [cell_of_row w b (o + j) c t _ hb]; simp; omega, frozen_of_row w b (o + j) c t hb⟩
  · cases h

/-- Each is the value of one cell. -/
def allOne (cs : Array Value) : Bool := cs.all (·.oneCell')

theorem run_structStore {P : Program} {T : TypeId} {n : Nat} (hi : (P.info? T).map (·.size) = some n) (w : World) (b o : Nat) (cs : Array Value) (hn : cs.size = n) (h1 : allOne cs = true) :
    (structStore T (.pointer (some ⟨b, o, none⟩)) (.agg cs)).run P w = storeOut P T w b o cs (canPut w b o n) := by
  cases h : canPut w b o n with
  | false => rfl
  | true =>
    rw [storeOut_true]
    have := run_storeAt_mid (P := P) w b o T cs (by rw [hn]; exact canPut_there h) (by rw [hi, hn]) h1
    simp only [structStore, Sem.run_bind, this, Result.andThen_ok, Sem.run_pure]
    rfl

theorem canPut_alloc_new {w : World} {cs : Array Value} {t : TypeId} {k o n : Nat} (hk : k = w.heap.size) (hn : o + n ≤ cs.size) : canPut (w.alloc (.cells cs t)) k o n = true := by
  subst hk
  have : (w.alloc (.cells cs t)).heap[w.heap.size]? = some (.cells cs t) := by show (w.heap.push _)[w.heap.size]? = _; simp
  unfold canPut; rw [this]; simp [hn]
theorem canPut_alloc_past {w : World} {ob : Obj} {k o n : Nat} (hk : k < w.heap.size) : canPut (w.alloc ob) k o n = canPut w k o n := by
  unfold canPut; rw [Below.heap_alloc w ob k hk]
theorem canPut_of_block {w w' : World} {b : Nat} (h : w'.heap[b]? = w.heap[b]?) (o n : Nat) : canPut w' b o n = canPut w b o n := by unfold canPut; rw [h]

theorem setCells_push (w : World) (t : TypeId) : ∀ (l : List Value) (o : Nat) (c : Array Value), (w.alloc (.cells c t)).setCells w.heap.size o l = w.alloc (.cells ((l.zipIdx o).foldl (fun c x => c.setIfInBounds x.2 x.1) c) t)
  | [], _, _ => rfl
  | v :: l, o, c => by
    rw [World.setCells, World.setCell_alloc_at _ _ _ _ _ rfl, setCells_push w t l (o + 1)]
    rfl

theorem foldl_set_all (pre : List Value) : ∀ (l m : List Value), l.length = m.length →
    ((m.zipIdx pre.length).foldl (fun (c : Array Value) x => c.setIfInBounds x.2 x.1) (pre ++ l).toArray) = (pre ++ m).toArray
  | [], [], _ => by simp
  | x :: l, y :: m, h => by
    have ih := foldl_set_all (pre ++ [y]) l m (by simpa using h)
    simp only [List.zipIdx_cons, List.foldl_cons]
    have e : (pre ++ x :: l).toArray.setIfInBounds pre.length y = ((pre ++ [y]) ++ l).toArray := by simp
    rw [e]
    simpa using ih

theorem putRow_alloc_whole {w : World} {c cs : Array Value} {t : TypeId} {k : Nat} (hk : k = w.heap.size) (hn : c.size = cs.size) : putRow (w.alloc (.cells c t)) k 0 cs = w.alloc (.cells cs t) := by
  subst hk
  unfold putRow
  rw [setCells_push]
  have := foldl_set_all [] c.toList cs.toList (by simpa using hn)
  simp only [List.length_nil, List.nil_append] at this
  have e : c.toList.toArray = c := by simp
  rw [e] at this
  rw [this]

attribute [go_sem] storeOut_true canPut_alloc_new canPut_alloc_past putRow_alloc_whole

/-! ### Worlds later than a world -/

/-- A world later than W: what lay in W lies there as it lay. -/
structure Later (W : World) where
  w : World
  b : Below W.heap.size W w

instance {W : World} : Nonempty (Later W) := ⟨⟨W, Below.refl _ _⟩⟩

section
variable {W : World} (x : Later W) (b o : Nat) (h : b < W.heap.size)
include h
theorem Later.cell : x.w.cell? ⟨b, o, none⟩ = W.cell? ⟨b, o, none⟩ := x.b.cell (p := ⟨b, o, none⟩) h
theorem Later.frozen : x.w.frozen? ⟨b, o, none⟩ = W.frozen? ⟨b, o, none⟩ := x.b.frozen (p := ⟨b, o, none⟩) h
theorem Later.row (n : Nat) : row? x.w b o n = row? W b o n := row?_of_block (x.b.block b h) o n
end

theorem wp_region_later {P : Program} {id : Nat} {Q : Exit → Act → World → Prop} {a : Act} {W w : World} {l : List Oper} (hW : Below W.heap.size W w) (hm : P.follows .mixedOrders = true) (hB : Region.lexB .any l.toArray = true)
    (h : wpQuiet P l.toArray (fun w' => ∃ x : Later W, w' = x.w) (fun a' => ∀ w', Below W.heap.size W w' → Q .normal a' w') l a) : (Code.region id l.toArray true).wp P Q a w := by
  refine wp_region_quiet (C := fun w' => ∃ x : Later W, w' = x.w) hm hB ⟨⟨w.drew, hW.drew⟩, rfl⟩ ?_
  have : (fun a' => ∀ w', (∃ x : Later W, w' = x.w) → Q .normal a' w') = (fun a' => ∀ w', Below W.heap.size W w' → Q .normal a' w') := by
    funext a'; apply propext
    exact ⟨fun h w' hw' => h w' ⟨⟨w', hw'⟩, rfl⟩, fun h w' ⟨x, hx⟩ => hx ▸ h _ x.b⟩
  rw [this]
  simpa using h

theorem Calls.later_same {P : Program} {f : FuncId} {args : Array Value} {W : World} {x : Later W} {v : Value}
    (h : Calls P f args x.w fun e w' => e = .returned v ∧ x.w = w') : Calls P f args x.w fun e w'' => e = .returned v ∧ ∃ y : Later W, w'' = y.w :=
  h.mono fun _ _ ⟨he, hb⟩ => ⟨he, x, hb.symm⟩

theorem Calls.later_of {P : Program} {f : FuncId} {args : Array Value} {W : World} {x : Later W} {v : Value}
    (h : Calls P f args x.w fun e w' => e = .returned v ∧ Below x.w.heap.size x.w w') : Calls P f args x.w fun e w'' => e = .returned v ∧ ∃ y : Later W, w'' = y.w :=
  h.mono fun _ w' ⟨he, hb⟩ => ⟨he, ⟨w', x.b.trans (hb.mono x.b.size)⟩, rfl⟩

/-- Behind a contract: old cells, marks and rows read as before. -/
theorem bcell {W w1 : World} (hb : Below W.heap.size W w1) : (∀ b o, b < W.heap.size → w1.cell? ⟨b, o, none⟩ = W.cell? ⟨b, o, none⟩) ∧ (∀ b o, b < W.heap.size → w1.frozen? ⟨b, o, none⟩ = W.frozen? ⟨b, o, none⟩) ∧
    (∀ b o n, b < W.heap.size → row? w1 b o n = row? W b o n) :=
  ⟨fun b o h => hb.cell (p := ⟨b, o, none⟩) h, fun b o h => hb.frozen (p := ⟨b, o, none⟩) h, fun b o n h => row?_of_block (hb.block b h) o n⟩

attribute [go_sem] rowOut_some subRow_whole row?_alloc_at row?_alloc_past row?_drew row?_setCell_other Later.cell Later.frozen Later.row
end Go.WW
/- A region that draws its order, walked once in the order of the text. -/
namespace Go.WW
open Go.RowKit

/-! ### A region that draws its order, walked once in the order of the text: operations that only look may stand anywhere; those that act are in one forced order. -/

section
variable {P : Program} {ops : Array Oper} {S : World → Prop} {st : Oper → Bool} {Q : Act → World → Prop}

abbrev never : Exit → Act → World → Prop := fun _ _ _ => False

/-- The walk in the order of the text. -/
def wpText (P : Program) (ops : Array Oper) (st : Oper → Bool) (S : World → Prop) (Q : Act → World → Prop) : List Oper → Act → World → Prop
  | [], a, w => Q a w
  | o :: rest, a, w =>
    if Region.wanted o (yielded ops a.tmps) then
      if st o then ∃ v, (∀ w', S w' → (execOp a.eval o).run P w' = .ok (.value v) w') ∧ wpText P ops st S Q rest (a.put o.dst v) w
      else o.wp P a w (fun a' w' => S w' ∧ wpText P ops st S Q rest a' w') never
    else wpText P ops st S Q rest (a.put o.dst undef) w

theorem wp_mono_Q {o : Oper} {a : Act} {w : World} {K : Act → World → Prop} {Q' : Exit → Act → World → Prop} (h : o.wp P a w K never) : o.wp P a w K Q' := by
  unfold Oper.wp at *
  generalize (execOp a.eval o).run P w = r at *
  cases r with
  | ok n w' =>
    cases n <;> simp only [Oper.upon] at h ⊢ <;>
      first
        | exact h
        | exact Calls.mono h (fun e w'' he => by cases e <;> first | exact he | exact he.elim | (obtain ⟨_, _, he⟩ := he; exact he.elim))
  | halt x w' => cases x <;> simp only [Oper.upon, never] at h ⊢

theorem wp_form {o : Oper} {a : Act} {w : World} {K : Act → World → Prop} (h : o.wp P a w K never) :
    o.wp P a w (fun a' w' => (∃ u ds, a' = ({ a with defers := ds } : Act).put o.dst u) ∧ K a' w') never := by
  unfold Oper.wp at *
  generalize (execOp a.eval o).run P w = r at *
  cases r with
  | ok n w' =>
    cases n <;> simp only [Oper.upon] at h ⊢ <;>
      first
        | exact ⟨⟨_, a.defers, rfl⟩, h⟩
        | exact ⟨⟨_, _, rfl⟩, h⟩
        | exact Calls.mono h (fun e w'' he => by cases e <;> first | exact ⟨⟨_, a.defers, rfl⟩, he⟩ | exact he)
        | exact Rows.mono h (fun _ _ he => ⟨⟨_, a.defers, rfl⟩, he⟩)
        | exact h
  | halt x w' => cases x <;> simp only [Oper.upon, never] at h ⊢

theorem wp_exists {o : Oper} {a : Act} {w : World} {K : Act → World → Prop} (h : o.wp P a w K never) : ∃ a' w', K a' w' := by
  unfold Oper.wp at *
  generalize (execOp a.eval o).run P w = r at *
  cases r with
  | ok n w' =>
    cases n <;> simp only [Oper.upon] at h <;>
      first
        | exact ⟨_, _, h⟩
        | (obtain ⟨e, w'', fr, hR, _⟩ := h []
           cases e with
           | returned v => exact ⟨_, _, hR⟩
           | panicked c => exact hR.elim
           | outgrown => obtain ⟨_, _, hR⟩ := hR; exact hR.elim)
        | (obtain ⟨v, w'', hR, _⟩ := h default []; exact ⟨_, _, hR⟩)
        | exact h.elim
  | halt x w' => cases x <;> simp only [Oper.upon, never] at h

/-- Whether a temporary that the operation does not touch is filled makes no difference to it. -/
theorem wp_put {o : Oper} {a : Act} {w : World} {K : Act → World → Prop} {dst : Option Tmp} {v : Value} (hs : ∀ cs b, o.op ≠ .select cs b)
    (h1 : ∀ d, dst = some d → d ∉ o.looksAt ops) (h2 : ∀ d, dst = some d → o.dst ≠ some d) :
    o.wp P (a.put dst v) w K never ↔ o.wp P a w (fun a' w' => K (a'.put dst v) w') never := by
  unfold Oper.wp
  rw [execOp_put o hs a dst v h1]
  generalize (execOp a.eval o).run P w = r
  have hc : ∀ (b : Act) u, (b.put dst v).put o.dst u = (b.put o.dst u).put dst v := fun b u => Act.put_comm b v u h2
  have hd : ∀ d, ({ a.put dst v with defers := d :: (a.put dst v).defers } : Act) = ({ a with defers := d :: a.defers } : Act).put dst v := fun d => Act.put_defers a dst v d
  cases r with
  | ok n w' =>
    cases n <;> simp only [Oper.upon, hc, hd]
  | halt x w' => cases x <;> simp only [Oper.upon]

theorem text_cons (o : Oper) (rest : List Oper) (a : Act) (w : World) : wpText P ops st S Q (o :: rest) a w =
    (if Region.wanted o (yielded ops a.tmps) then
      if st o then ∃ v, (∀ w', S w' → (execOp a.eval o).run P w' = .ok (.value v) w') ∧ wpText P ops st S Q rest (a.put o.dst v) w
      else o.wp P a w (fun a' w' => S w' ∧ wpText P ops st S Q rest a' w') never
    else wpText P ops st S Q rest (a.put o.dst undef) w) := rfl

theorem text_mono {l : List Oper} {Q' : Act → World → Prop} (h : ∀ a w, Q a w → Q' a w) : ∀ {a w}, wpText P ops st S Q l a w → wpText P ops st S Q' l a w := by
  induction l with
  | nil => exact fun hh => h _ _ hh
  | cons o l ih =>
    intro a w hh
    rw [text_cons] at *
    split
    · rename_i hw
      simp only [hw, if_true] at hh
      split
      · rename_i hs
        simp only [hs, if_true] at hh
        obtain ⟨v, h1, h2⟩ := hh
        exact ⟨v, h1, ih h2⟩
      · rename_i hs
        simp only [hs] at hh
        exact Oper.wp_mono (fun a' w' ⟨x, y⟩ => ⟨x, ih y⟩) hh
    · rename_i hw
      simp only [hw] at hh
      exact ih hh

theorem cons_mono {o : Oper} {M M' : List Oper} {a : Act} {w : World} (hS : S w) (h : ∀ a' w', S w' → wpText P ops st S Q M a' w' → wpText P ops st S Q M' a' w')
    (hh : wpText P ops st S Q (o :: M) a w) : wpText P ops st S Q (o :: M') a w := by
  rw [text_cons] at *
  split
  · rename_i hw
    simp only [hw, if_true] at hh
    split
    · rename_i hs
      simp only [hs, if_true] at hh
      obtain ⟨v, h1, h2⟩ := hh
      exact ⟨v, h1, h _ _ hS h2⟩
    · rename_i hs
      simp only [hs] at hh
      exact Oper.wp_mono (fun a' w' ⟨x, y⟩ => ⟨x, h _ _ x y⟩) hh
  · rename_i hw
    simp only [hw] at hh
    exact h _ _ hS hh

/-- Two operations that touch none of each other's temporaries, one of which only looks, may change places. -/
theorem text_swap {x o : Oper} {L : List Oper} {a : Act} {w : World} (hx : ∀ cs b, x.op ≠ .select cs b) (ho : ∀ cs b, o.op ≠ .select cs b)
    (hap : x.apart ops o = true) (hst : st x = true ∨ st o = true) (h : wpText P ops st S Q (x :: o :: L) a w) : wpText P ops st S Q (o :: x :: L) a w := by
  obtain ⟨h1, h2, h3⟩ := Oper.apart_spec hap
  have h2' : ∀ d, o.dst = some d → x.dst ≠ some d := fun d hd hxd => h2 d hxd hd
  have wo : ∀ (b : Act) v, Region.wanted o (yielded ops (b.put x.dst v).tmps) = Region.wanted o (yielded ops b.tmps) := fun b v => wanted_put o b x.dst v h1
  have wx : ∀ (b : Act) v, Region.wanted x (yielded ops (b.put o.dst v).tmps) = Region.wanted x (yielded ops b.tmps) := fun b v => wanted_put x b o.dst v h3
  have eo : ∀ (b : Act) v, execOp (b.put x.dst v).eval o = execOp b.eval o := fun b v => execOp_put o ho b x.dst v h1
  have ex : ∀ (b : Act) v, execOp (b.put o.dst v).eval x = execOp b.eval x := fun b v => execOp_put x hx b o.dst v h3
  have hc : ∀ (b : Act) v u, (b.put x.dst v).put o.dst u = (b.put o.dst u).put x.dst v := fun b v u => Act.put_comm b v u h2
  rw [text_cons] at h ⊢
  by_cases hwx : Region.wanted x (yielded ops a.tmps) = true
  · rw [if_pos hwx] at h
    by_cases hsx : st x = true
    · rw [if_pos hsx] at h
      obtain ⟨v, hv, h⟩ := h
      rw [text_cons, wo, eo] at h
      by_cases hwo : Region.wanted o (yielded ops a.tmps) = true
      · rw [if_pos hwo] at h ⊢
        by_cases hso : st o = true
        · rw [if_pos hso] at h ⊢
          obtain ⟨u, hu, h⟩ := h
          refine ⟨u, hu, ?_⟩
          rw [text_cons, wx, if_pos hwx, if_pos hsx, ex]
          exact ⟨v, hv, by rw [← hc]; exact h⟩
        · rw [if_neg hso] at h ⊢
          have h' := wp_form ((wp_put ho h1 h2).1 h)
          refine Oper.wp_mono ?_ h'
          rintro a' w' ⟨⟨u, ds, rfl⟩, hS', h⟩
          refine ⟨hS', ?_⟩
          rw [text_cons, wx, show Region.wanted x (yielded ops ({ a with defers := ds } : Act).tmps) = true from hwx, if_pos rfl, if_pos hsx, ex]
          exact ⟨v, hv, h⟩
      · rw [if_neg hwo] at h ⊢
        rw [text_cons, wx, if_pos hwx, if_pos hsx, ex]
        exact ⟨v, hv, by rw [← hc]; exact h⟩
    · have hso : st o = true := hst.resolve_left hsx
      rw [if_neg hsx] at h
      have h' := wp_form h
      by_cases hwo : Region.wanted o (yielded ops a.tmps) = true
      · rw [if_pos hwo, if_pos hso]
        have key : ∀ a' w', ((∃ u ds, a' = ({ a with defers := ds } : Act).put x.dst u) ∧ S w' ∧ wpText P ops st S Q (o :: L) a' w') →
            ∃ v, (∀ w', S w' → (execOp a.eval o).run P w' = .ok (.value v) w') ∧ S w' ∧ wpText P ops st S Q L (a'.put o.dst v) w' := by
          rintro a' w' ⟨⟨u, ds, rfl⟩, hS', hh⟩
          rw [text_cons, wo, show Region.wanted o (yielded ops ({ a with defers := ds } : Act).tmps) = true from hwo, if_pos rfl, if_pos hso, eo] at hh
          obtain ⟨v, hv, hh⟩ := hh
          exact ⟨v, hv, hS', hh⟩
        obtain ⟨a1, w1, h1'⟩ := wp_exists h'
        obtain ⟨v, hv, _⟩ := key _ _ h1'
        refine ⟨v, hv, ?_⟩
        rw [text_cons, wx, if_pos hwx, if_neg hsx, wp_put hx h3 h2']
        refine Oper.wp_mono ?_ h'
        intro a' w' hh
        obtain ⟨v', hv', hS', hh⟩ := key _ _ hh
        have e : v' = v := by
          have := (hv' _ hS').symm.trans (hv _ hS')
          simpa using this
        subst e
        exact ⟨hS', hh⟩
      · rw [if_neg hwo, text_cons, wx, if_pos hwx, if_neg hsx, wp_put hx h3 h2']
        refine Oper.wp_mono ?_ h'
        rintro a' w' ⟨⟨u, ds, rfl⟩, hS', hh⟩
        rw [text_cons, wo, show Region.wanted o (yielded ops ({ a with defers := ds } : Act).tmps) = false from by simpa using hwo, if_neg (by simp)] at hh
        exact ⟨hS', hh⟩
  · rw [if_neg hwx] at h
    rw [text_cons, wo, eo] at h
    by_cases hwo : Region.wanted o (yielded ops a.tmps) = true
    · rw [if_pos hwo] at h ⊢
      by_cases hso : st o = true
      · rw [if_pos hso] at h ⊢
        obtain ⟨u, hu, h⟩ := h
        refine ⟨u, hu, ?_⟩
        rw [text_cons, wx, if_neg hwx, ← hc]
        exact h
      · rw [if_neg hso] at h ⊢
        have h' := wp_form ((wp_put ho h1 h2).1 h)
        refine Oper.wp_mono ?_ h'
        rintro a' w' ⟨⟨u, ds, rfl⟩, hS', h⟩
        refine ⟨hS', ?_⟩
        rw [text_cons, wx, show Region.wanted x (yielded ops ({ a with defers := ds } : Act).tmps) = false from by simpa using hwx, if_neg (by simp)]
        exact h
    · rw [if_neg hwo] at h ⊢
      rw [text_cons, wx, if_neg hwx, ← hc]
      exact h

/-- .. and so to the front. -/
theorem text_front {o : Oper} {L2 : List Oper} (ho : ∀ cs b, o.op ≠ .select cs b) : ∀ (L1 : List Oper), (∀ x ∈ L1, (∀ cs b, x.op ≠ .select cs b) ∧ x.apart ops o = true ∧ (st x = true ∨ st o = true)) →
    ∀ (a : Act) (w : World), S w → wpText P ops st S Q (L1 ++ o :: L2) a w → wpText P ops st S Q (o :: (L1 ++ L2)) a w
  | [], _, _, _, _, h => h
  | x :: L1, hall, a, w, hS, h => by
    have hx := hall x (by simp)
    refine text_swap hx.1 ho hx.2.1 hx.2.2 ?_
    exact cons_mono hS (fun a' w' hS' hh => text_front ho L1 (fun y hy => hall y (by simp [hy])) a' w' hS' hh) h

/-- The acting operations for which each operation waits, directly or through others. -/
def effPreds (st : Oper → Bool) (ops : Array Oper) : Array (List Nat) :=
  ops.foldl (fun acc o => acc.push (((o.after.toList.filter (Region.binds .any ·)).flatMap fun e => (if ((ops[e.on]?).map st).getD true then [] else [e.on]) ++ acc.getD e.on []).eraseDups)) #[]

/-- What is asked of the region: edges go back; two operations are ordered by an edge or touch none of each other's temporaries; two that act are ordered. -/
def textB (st : Oper → Bool) (ops : Array Oper) : Bool :=
  let m := effPreds st ops
  Region.noSelect ops && (List.range ops.size).all fun j => match ops[j]? with
    | none => true
    | some oj =>
      oj.after.toList.all (fun e => !Region.binds .any e || decide (e.on < j)) &&
      (m.getD j []).all (fun i => oj.after.toList.any fun e => Region.binds .any e && (e.on == i || (m.getD e.on []).contains i)) &&
      (List.range j).all fun i => match ops[i]? with
        | none => true
        | some oi => oj.after.toList.any (fun e => Region.binds .any e && e.on == i) || (oi.apart ops oj && (st oi || st oj || (m.getD j []).contains i))

structure TextOk (st : Oper → Bool) (ops : Array Oper) (m : Array (List Nat)) : Prop where
  sel : Region.noSelect ops = true
  back : ∀ j oj, ops[j]? = some oj → ∀ e ∈ oj.after, Region.binds .any e = true → e.on < j
  pred : ∀ j oj, ops[j]? = some oj → ∀ i ∈ m.getD j [], ∃ e ∈ oj.after, Region.binds .any e = true ∧ (e.on = i ∨ i ∈ m.getD e.on [])
  pair : ∀ j oj, ops[j]? = some oj → ∀ i, i < j → ∀ oi, ops[i]? = some oi → (∃ e ∈ oj.after, Region.binds .any e = true ∧ e.on = i) ∨ (oi.apart ops oj = true ∧ (st oi = true ∨ st oj = true ∨ i ∈ m.getD j []))

theorem textB_ok (h : textB st ops = true) : TextOk st ops (effPreds st ops) := by
  unfold textB at h
  simp only [Bool.and_eq_true, List.all_eq_true, List.mem_range] at h
  obtain ⟨hs, h⟩ := h
  have lt : ∀ {j : Nat} {oj : Oper}, ops[j]? = some oj → j < ops.size := fun hj => (Array.getElem?_eq_some_iff.1 hj).1
  refine ⟨hs, fun j oj hj => ?_, fun j oj hj => ?_, fun j oj hj => ?_⟩
  all_goals
    have hh := h j (lt hj)
    simp only [hj, Bool.and_eq_true, List.all_eq_true, List.mem_range] at hh
    obtain ⟨⟨h1, h2⟩, h3⟩ := hh
  · intro e he hb
    have := h1 e (by simpa using he)
    simpa [hb] using this
  · intro i hi
    have := h2 i hi
    simp only [List.any_eq_true, Bool.and_eq_true, Bool.or_eq_true, beq_iff_eq, List.contains_iff_mem] at this
    obtain ⟨e, he, hb, hor⟩ := this
    exact ⟨e, by simpa using he, hb, hor⟩
  · intro i hi oi ho
    have := h3 i hi
    simp only [ho, Bool.or_eq_true, List.any_eq_true, Bool.and_eq_true, beq_iff_eq, List.contains_iff_mem] at this
    rcases this with ⟨e, he, hb, hor⟩ | ⟨ha, hor⟩
    · exact .inl ⟨e, by simpa using he, hb, hor⟩
    · exact .inr ⟨ha, by rcases hor with (h | h) | h; exact .inl h; exact .inr (.inl h); exact .inr (.inr h)⟩

theorem preds_listed {m : Array (List Nat)} (hok : TextOk st ops m) {listed : Array Bool}
    (hdown : ∀ k o, ops[k]? = some o → listed.getD k false = true → ∀ e ∈ o.after, Region.binds .any e = true → listed.getD e.on false = true) :
    ∀ (j : Nat) (oj : Oper), ops[j]? = some oj → (∀ e ∈ oj.after, Region.binds .any e = true → listed.getD e.on false = true) → ∀ i ∈ m.getD j [], listed.getD i false = true := by
  intro j
  induction j using Nat.strongRecOn with
  | _ j ih =>
    intro oj hj hall i hi
    obtain ⟨e, he, hb, hor⟩ := hok.pred j oj hj i hi
    rcases hor with rfl | hor
    · exact hall e he hb
    · have hlt := hok.back j oj hj e he hb
      have hjs : j < ops.size := (Array.getElem?_eq_some_iff.1 hj).1
      have hoe : ops[e.on]? = some (ops[e.on]'(by omega)) := by simp
      exact ih e.on hlt _ hoe (hdown _ _ hoe (hall e he hb)) i hor

theorem getD_true_of_false {listed : Array Bool} {i : Nat} (h : listed.getD i false = true) : listed.getD i true = true := by
  rcases Nat.lt_or_ge i listed.size with h' | h'
  · simp [h'] at h ⊢; exact h
  · simp [Array.getElem?_eq_none h'] at h

theorem text_any {m : Array (List Nat)} (hok : TextOk st ops m) {Q' : Exit → Act → World → Prop} (hQ : ∀ a w, Q a w → Q' .normal a w) :
    ∀ (n : Nat) (L : List Nat) (listed : Array Bool) (a : Act) (w : World), L.length = n → L.Pairwise (· < ·) → listed.size = ops.size → (∀ j, j ∈ L ↔ j < ops.size ∧ listed.getD j true = false) →
      (∀ k o, ops[k]? = some o → listed.getD k false = true → ∀ e ∈ o.after, Region.binds .any e = true → listed.getD e.on false = true) →
      S w → wpText P ops st S Q (L.filterMap (ops[·]?)) a w → wpAny P .any ops Q' n listed a w := by
  intro n
  induction n with
  | zero =>
    intro L listed a w hn _ hsz hL _ _ h
    have : L = [] := List.eq_nil_of_length_eq_zero hn
    subst this
    refine ⟨?_, hQ _ _ h⟩
    cases hr : Region.ready .any ops listed with
    | nil => rfl
    | cons i r =>
      have hi : i ∈ Region.ready .any ops listed := by rw [hr]; simp
      obtain ⟨h0, o, ho, _⟩ := mem_ready.1 hi
      have := (hL i).2 ⟨(Array.getElem?_eq_some_iff.1 ho).1, h0⟩
      cases this
  | succ n ih =>
    intro L listed a w hn hsort hsz hL hdown hS h
    refine ⟨fun hr => ?_, fun i hi => ?_⟩
    · exfalso
      cases L with
      | nil => simp at hn
      | cons j L =>
        obtain ⟨hj, hjl⟩ := (hL j).1 (by simp)
        have hoj : ops[j]? = some ops[j] := by simp [hj]
        have : j ∈ Region.ready .any ops listed := by
          refine mem_ready.2 ⟨hjl, _, hoj, fun e he hb => ?_⟩
          have hlt := hok.back j _ hoj e he hb
          have hnot : e.on ∉ j :: L := by
            intro hmem
            rcases List.mem_cons.1 hmem with h1 | h1
            · omega
            · have := (List.pairwise_cons.1 hsort).1 _ h1; omega
          have h2 : listed.getD e.on true ≠ false := fun hf => hnot ((hL e.on).2 ⟨by omega, hf⟩)
          have hes : e.on < listed.size := by omega
          simp [hes] at h2 ⊢; exact h2
        rw [hr] at this; cases this
    · obtain ⟨h0, o, ho, hall⟩ := mem_ready.1 hi
      have his : i < ops.size := (Array.getElem?_eq_some_iff.1 ho).1
      have hiL : i ∈ L := (hL i).2 ⟨his, h0⟩
      obtain ⟨L1, L2, rfl⟩ := List.append_of_mem hiL
      have hsort' := List.pairwise_append.1 hsort
      have hlt1 : ∀ x ∈ L1, x < i := fun x hx => hsort'.2.2 x hx i (by simp)
      have hgt2 : ∀ x ∈ L2, i < x := fun x hx => (List.pairwise_cons.1 hsort'.2.1).1 x hx
      rw [List.filterMap_append, List.filterMap_cons_some ho] at h
      have hfront := text_front (P := P) (ops := ops) (S := S) (st := st) (Q := Q) (Region.noSelect_spec hok.sel i o · · ho) (L1.filterMap (ops[·]?)) (fun x hx => by
        obtain ⟨k, hk, hox⟩ := List.mem_filterMap.1 hx
        have hkl := ((hL k).1 (by simp [hk])).2
        have hnl : ¬ listed.getD k false = true := fun hf => by rw [getD_true_of_false hf] at hkl; cases hkl
        refine ⟨(Region.noSelect_spec hok.sel k x · · hox), ?_⟩
        rcases hok.pair i o ho k (hlt1 k hk) x hox with ⟨e, he, hb, rfl⟩ | ⟨hap, hor⟩
        · exact absurd (hall e he hb) hnl
        · refine ⟨hap, ?_⟩
          rcases hor with h1 | h1 | h1
          · exact .inl h1
          · exact .inr h1
          · exact absurd (preds_listed hok hdown i o ho hall k h1) hnl) a w hS h
      have hrest : ∀ a' w', S w' → wpText P ops st S Q (L1.filterMap (ops[·]?) ++ L2.filterMap (ops[·]?)) a' w' → wpAny P .any ops Q' n (listed.setIfInBounds i true) a' w' := by
        intro a' w' hS' hh
        rw [← List.filterMap_append] at hh
        refine ih (L1 ++ L2) (listed.setIfInBounds i true) a' w' ?_ ?_ (by simpa using hsz) ?_ ?_ hS' hh
        · simp at hn ⊢; omega
        · exact List.pairwise_append.2 ⟨hsort'.1, (List.pairwise_cons.1 hsort'.2.1).2, fun x hx y hy => hsort'.2.2 x hx y (by simp [hy])⟩
        · intro j
          by_cases hji : j = i
          · subst hji
            constructor
            · intro hm
              exfalso
              rcases List.mem_append.1 hm with h1 | h1
              · have := hlt1 _ h1; omega
              · have := hgt2 _ h1; omega
            · rintro ⟨_, hf⟩
              have : j < listed.size := by omega
              simp [this] at hf
          · rw [getD_set_ne true (Ne.symm hji), ← hL j]
            simp [hji]
        · intro k ok hk hkl e he hb
          by_cases hki : k = i
          · subst hki
            rw [ho] at hk; cases hk
            exact getD_set_true (hall e he hb)
          · rw [getD_set_ne false (Ne.symm hki)] at hkl
            exact getD_set_true (hdown k ok hk hkl e he hb)
      unfold wpOp
      simp only [ho]
      rw [text_cons] at hfront
      split
      · rename_i hw
        rw [if_pos hw] at hfront
        refine .inl ?_
        by_cases hs : st o = true
        · rw [if_pos hs] at hfront
          obtain ⟨v, hv, hh⟩ := hfront
          unfold Oper.wp
          rw [hv w hS]
          exact hrest _ _ hS hh
        · rw [if_neg hs] at hfront
          exact wp_mono_Q (Oper.wp_mono (fun a' w' hh => hrest a' w' hh.1 hh.2) hfront)
      · rename_i hw
        rw [if_neg hw] at hfront
        exact hrest _ _ hS hfront

/-- ONE WALK IN THE ORDER OF THE TEXT SERVES EVERY ORDER. -/
theorem wp_region_text {id : Nat} {Q' : Exit → Act → World → Prop} {a : Act} {w : World} {l : List Oper} (S : World → Prop) (st : Oper → Bool) (hm : P.follows .mixedOrders = true) (hB : textB st l.toArray = true)
    (hS : S w.drew) (h : wpText P l.toArray st S (fun a' w' => Q' .normal a' w') l a w.drew) : (Code.region id l.toArray true).wp P Q' a w := by
  refine wp_region_any hm ?_
  have hfm : (List.range l.toArray.size).filterMap (l.toArray[·]?) = l := by
    apply List.ext_getElem?
    intro i
    have : ∀ n, (List.range n).filterMap (fun i => l.toArray[i]?) = l.take n := by
      intro n
      induction n with
      | zero => simp
      | succ n ih =>
        rw [List.range_succ, List.filterMap_append, ih]
        by_cases hn : n < l.length
        · rw [List.take_succ_eq_append_getElem hn]; simp [hn]
        · simp [hn, List.take_of_length_le (show l.length ≤ n by omega), List.take_of_length_le (show l.length ≤ n + 1 by omega)]
    rw [this]; simp
  have := text_any (P := P) (S := S) (Q := fun a' w' => Q' .normal a' w') (textB_ok hB) (Q' := Q') (fun _ _ h => h) l.toArray.size (List.range l.toArray.size) (Array.replicate l.toArray.size false) a w.drew
    (by simp) List.pairwise_lt_range (by simp) (by intro j; simp; intro h; simp [h]) (by intro k o hk hkl; exfalso; rw [Array.getD_eq_getD_getElem?, Array.getElem?_replicate] at hkl; split at hkl <;> simp at hkl) hS (by rw [hfm]; exact h)
  exact this

/-! ### The walk's steps -/

/-- The operations that only look: each yields a value or fails. -/
def looks (o : Oper) : Bool :=
  match o.op with
  | .move _ | .assign _ | .pick .. | .load .. | .binOp .. | .unOp .. | .makeInterface .. | .makeFunc .. | .slice .. | .fieldAddr .. | .field .. | .indexAddr .. | .index .. | .lookup .. | .extract .. | .build .. | .convert .. => true
  | .call { callee := .builtin b, .. } => match b with | .len | .cap | .min | .max => true | _ => false
  | _ => false

theorem run_value_only (s : Sem Value) (w : World) : (∃ v w', ((do pure (.value (← s)) : Sem Next)).run P w = .ok (.value v) w') ∨ ∃ h w', ((do pure (.value (← s)) : Sem Next)).run P w = .halt h w' := by
  rw [Sem.run_bind]
  cases s.run P w with
  | ok v w' => exact .inl ⟨v, w', by simp⟩
  | halt h w' => exact .inr ⟨h, w', by simp⟩

theorem looks_value {o : Oper} (h : looks o = true) (ρ : Operand → Value) (w : World) : (∃ v w', (execOp ρ o).run P w = .ok (.value v) w') ∨ ∃ h w', (execOp ρ o).run P w = .halt h w' := by
  obtain ⟨dst, op, type, pos, after, guard⟩ := o
  cases op <;> simp only [looks, Bool.false_eq_true] at h <;> simp only [execOp]
  case move x => exact .inl ⟨_, w, rfl⟩
  case assign x => exact .inl ⟨_, w, rfl⟩
  case pick c a b =>
    rw [Sem.run_bind]
    cases (asBool (ρ c)).run P w with
    | ok v w' => exact .inl ⟨_, w', by simp; rfl⟩
    | halt h w' => exact .inr ⟨h, w', by simp⟩
  case call c =>
    obtain ⟨callee, args, ats⟩ := c
    cases callee with
    | value f => simp at h
    | invoke r m => simp at h
    | builtin b => cases b <;> simp at h <;> exact run_value_only _ w
  all_goals exact run_value_only _ w

theorem text_nil {a : Act} {w : World} (h : Q a w) : wpText P ops st S Q [] a w := h
theorem text_skip {o : Oper} {rest : List Oper} {a : Act} {w : World} (hw : Region.wanted o (yielded ops a.tmps) = false) (h : wpText P ops st S Q rest (a.put o.dst undef) w) : wpText P ops st S Q (o :: rest) a w := by
  rw [text_cons, if_neg (by simp [hw])]; exact h
/-- An operation that only looks. -/
theorem text_look {o : Oper} {rest : List Oper} {a : Act} {w : World} (hw : Region.wanted o (yielded ops a.tmps) = true) (hs : looks o = true)
    (h : ∀ K : Act → Prop, (∀ a', wpText P ops looks S Q rest a' w → K a') → o.quiet P a S K) : wpText P ops looks S Q (o :: rest) a w := by
  rw [text_cons, if_pos hw, if_pos hs]
  obtain ⟨v, hv, hh⟩ := h _ (fun _ x => x)
  refine ⟨v, fun w' hw' => ?_, hh⟩
  have := hv w' hw'
  unfold Oper.quietAt at this
  rcases looks_value (P := P) hs a.eval w' with ⟨u, w'', e⟩ | ⟨x, w'', e⟩
  · rw [e] at this ⊢
    obtain ⟨rfl, rfl⟩ := this
    rfl
  · rw [e] at this
    exact this.elim
/-- An operation that acts. -/
theorem text_act {o : Oper} {rest : List Oper} {a : Act} {w : World} (hw : Region.wanted o (yielded ops a.tmps) = true) (hs : looks o = false)
    (h : ∀ K : Act → World → Prop, (∀ a' w', S w' → wpText P ops looks S Q rest a' w' → K a' w') → o.wp P a w K never) : wpText P ops looks S Q (o :: rest) a w := by
  rw [text_cons, if_pos hw, if_neg (by simp [hs])]
  exact h _ (fun _ _ x y => ⟨x, y⟩)

end

/-- The region's class: the worlds later than the one behind the draw. -/
abbrev since (w : World) : World → Prop := fun w' => ∃ x : Later w, w' = x.w

theorem wp_region_since {P : Program} {id : Nat} {Q' : Exit → Act → World → Prop} {a : Act} {W w : World} {l : List Oper} (hW : Below W.heap.size W w) (hm : P.follows .mixedOrders = true) (hB : textB looks l.toArray = true)
    (h : ∀ w1, Below W.heap.size W w1 → wpText P l.toArray looks (since W) (fun a' w' => Q' .normal a' w') l a w1) : (Code.region id l.toArray true).wp P Q' a w :=
  wp_region_text (since W) looks hm hB ⟨⟨w.drew, hW.drew⟩, rfl⟩ (h _ hW.drew)

theorem since_of {W w : World} (h : Below W.heap.size W w) : since W w := ⟨⟨w, h⟩, rfl⟩
theorem below_step {W w w' : World} (h : Below W.heap.size W w) (h' : Below w.heap.size w w') : Below W.heap.size W w' := h.trans (h'.mono h.size)
theorem below_new {W w : World} (h : Below W.heap.size W w) (o : Obj) : Below W.heap.size W (w.alloc o) := h.alloc h.size o
end Go.WW
/- The plain data of the watchword proofs: Lean structures for the program's types, and the cells in which a value of each lies. Printed by wip/src/gendata.py. -/
namespace Go.WW

/-- A slice's header but for its length. -/
structure Sl where
  a : Option Addr
  cap : Nat

structure Prin where
  parts : List ByteArray
  realm : ByteArray

structure Key where
  profile : Int
  version : Int
  bytes : List UInt8

structure KeySet where
  version : Int
  keys : List Key
  salt : ByteArray
  iterations : Int
  created : Int

structure Entry where
  name : Prin
  aliases : List Prin
  attrs : Int
  master : Int
  keys : List KeySet
  policy : ByteArray
  expires : Int
  pwExpires : Int
  maxLife : Int
  maxRenew : Int
  fails : Int
  lastFail : Int
  lastSuccess : Int
  targets : List Prin
  delegates : List Prin
  history : List (List UInt8)

structure Policy where
  name : ByteArray
  length : Int
  classes : Int
  distinct : Int
  history : Int
  minAge : Int
  maxAge : Int
  fails : Int
  window : Int
  lock : Int

/-- The headers of an entry's slices. -/
structure ERaw where
  parts : Sl
  aliases : Sl
  keys : Sl
  targets : Sl
  delegates : Sl
  history : Sl

/-- The cells of a value. -/
def prinC (s : Sl) (p : Prin) : Array Value := #[.slice s.a p.parts.length s.cap, .string p.realm]
theorem prinC_size (s : Sl) (p : Prin) : (prinC s p).size = 2 := by simp [prinC]
theorem prinC_lt (s : Sl) (p : Prin) (j : Nat) (h : j < 2) : j < (prinC s p).size := h
theorem prinC_one (s : Sl) (p : Prin) : allOne (prinC s p) = true := by simp [allOne, prinC, Value.oneCell']
theorem prinC_0 (s : Sl) (p : Prin) : (prinC s p)[0]? = some (.slice s.a p.parts.length s.cap) := by simp [prinC]
theorem prinC_g0 (s : Sl) (p : Prin) (h : 0 < (prinC s p).size) : (prinC s p)[0]'h = .slice s.a p.parts.length s.cap := by simp [prinC]
theorem prinC_1 (s : Sl) (p : Prin) : (prinC s p)[1]? = some (.string p.realm) := by simp [prinC]
theorem prinC_g1 (s : Sl) (p : Prin) (h : 1 < (prinC s p).size) : (prinC s p)[1]'h = .string p.realm := by simp [prinC]
attribute [go_sem] prinC_size prinC_one prinC_0 prinC_g0 prinC_1 prinC_g1

/-- The cells of a value. -/
def keyC (s : Sl) (k : Key) : Array Value := #[.int .i64 k.profile, .int .i64 k.version, .slice s.a k.bytes.length s.cap]
theorem keyC_size (s : Sl) (k : Key) : (keyC s k).size = 3 := by simp [keyC]
theorem keyC_lt (s : Sl) (k : Key) (j : Nat) (h : j < 3) : j < (keyC s k).size := h
theorem keyC_one (s : Sl) (k : Key) : allOne (keyC s k) = true := by simp [allOne, keyC, Value.oneCell']
theorem keyC_0 (s : Sl) (k : Key) : (keyC s k)[0]? = some (.int .i64 k.profile) := by simp [keyC]
theorem keyC_g0 (s : Sl) (k : Key) (h : 0 < (keyC s k).size) : (keyC s k)[0]'h = .int .i64 k.profile := by simp [keyC]
theorem keyC_1 (s : Sl) (k : Key) : (keyC s k)[1]? = some (.int .i64 k.version) := by simp [keyC]
theorem keyC_g1 (s : Sl) (k : Key) (h : 1 < (keyC s k).size) : (keyC s k)[1]'h = .int .i64 k.version := by simp [keyC]
theorem keyC_2 (s : Sl) (k : Key) : (keyC s k)[2]? = some (.slice s.a k.bytes.length s.cap) := by simp [keyC]
theorem keyC_g2 (s : Sl) (k : Key) (h : 2 < (keyC s k).size) : (keyC s k)[2]'h = .slice s.a k.bytes.length s.cap := by simp [keyC]
attribute [go_sem] keyC_size keyC_one keyC_0 keyC_g0 keyC_1 keyC_g1 keyC_2 keyC_g2

/-- The cells of a value. -/
def setC (s : Sl) (k : KeySet) : Array Value := #[.int .i64 k.version, .slice s.a k.keys.length s.cap, .string k.salt, .int .i64 k.iterations, .int .i64 k.created]
theorem setC_size (s : Sl) (k : KeySet) : (setC s k).size = 5 := by simp [setC]
theorem setC_lt (s : Sl) (k : KeySet) (j : Nat) (h : j < 5) : j < (setC s k).size := h
theorem setC_one (s : Sl) (k : KeySet) : allOne (setC s k) = true := by simp [allOne, setC, Value.oneCell']
theorem setC_0 (s : Sl) (k : KeySet) : (setC s k)[0]? = some (.int .i64 k.version) := by simp [setC]
theorem setC_g0 (s : Sl) (k : KeySet) (h : 0 < (setC s k).size) : (setC s k)[0]'h = .int .i64 k.version := by simp [setC]
theorem setC_1 (s : Sl) (k : KeySet) : (setC s k)[1]? = some (.slice s.a k.keys.length s.cap) := by simp [setC]
theorem setC_g1 (s : Sl) (k : KeySet) (h : 1 < (setC s k).size) : (setC s k)[1]'h = .slice s.a k.keys.length s.cap := by simp [setC]
theorem setC_2 (s : Sl) (k : KeySet) : (setC s k)[2]? = some (.string k.salt) := by simp [setC]
theorem setC_g2 (s : Sl) (k : KeySet) (h : 2 < (setC s k).size) : (setC s k)[2]'h = .string k.salt := by simp [setC]
theorem setC_3 (s : Sl) (k : KeySet) : (setC s k)[3]? = some (.int .i64 k.iterations) := by simp [setC]
theorem setC_g3 (s : Sl) (k : KeySet) (h : 3 < (setC s k).size) : (setC s k)[3]'h = .int .i64 k.iterations := by simp [setC]
theorem setC_4 (s : Sl) (k : KeySet) : (setC s k)[4]? = some (.int .i64 k.created) := by simp [setC]
theorem setC_g4 (s : Sl) (k : KeySet) (h : 4 < (setC s k).size) : (setC s k)[4]'h = .int .i64 k.created := by simp [setC]
attribute [go_sem] setC_size setC_one setC_0 setC_g0 setC_1 setC_g1 setC_2 setC_g2 setC_3 setC_g3 setC_4 setC_g4

/-- The cells of a value. -/
def entC (r : ERaw) (d : Entry) : Array Value := #[.slice r.parts.a d.name.parts.length r.parts.cap, .string d.name.realm, .slice r.aliases.a d.aliases.length r.aliases.cap, .int .u32 d.attrs, .int .i64 d.master, .slice r.keys.a d.keys.length r.keys.cap, .string d.policy, .int .i64 d.expires, .int .i64 d.pwExpires, .int .i64 d.maxLife, .int .i64 d.maxRenew, .int .i64 d.fails, .int .i64 d.lastFail, .int .i64 d.lastSuccess, .slice r.targets.a d.targets.length r.targets.cap, .slice r.delegates.a d.delegates.length r.delegates.cap, .slice r.history.a d.history.length r.history.cap]
theorem entC_size (r : ERaw) (d : Entry) : (entC r d).size = 17 := by simp [entC]
theorem entC_lt (r : ERaw) (d : Entry) (j : Nat) (h : j < 17) : j < (entC r d).size := h
theorem entC_one (r : ERaw) (d : Entry) : allOne (entC r d) = true := by simp [allOne, entC, Value.oneCell']
theorem entC_0 (r : ERaw) (d : Entry) : (entC r d)[0]? = some (.slice r.parts.a d.name.parts.length r.parts.cap) := by simp [entC]
theorem entC_g0 (r : ERaw) (d : Entry) (h : 0 < (entC r d).size) : (entC r d)[0]'h = .slice r.parts.a d.name.parts.length r.parts.cap := by simp [entC]
theorem entC_1 (r : ERaw) (d : Entry) : (entC r d)[1]? = some (.string d.name.realm) := by simp [entC]
theorem entC_g1 (r : ERaw) (d : Entry) (h : 1 < (entC r d).size) : (entC r d)[1]'h = .string d.name.realm := by simp [entC]
theorem entC_2 (r : ERaw) (d : Entry) : (entC r d)[2]? = some (.slice r.aliases.a d.aliases.length r.aliases.cap) := by simp [entC]
theorem entC_g2 (r : ERaw) (d : Entry) (h : 2 < (entC r d).size) : (entC r d)[2]'h = .slice r.aliases.a d.aliases.length r.aliases.cap := by simp [entC]
theorem entC_3 (r : ERaw) (d : Entry) : (entC r d)[3]? = some (.int .u32 d.attrs) := by simp [entC]
theorem entC_g3 (r : ERaw) (d : Entry) (h : 3 < (entC r d).size) : (entC r d)[3]'h = .int .u32 d.attrs := by simp [entC]
theorem entC_4 (r : ERaw) (d : Entry) : (entC r d)[4]? = some (.int .i64 d.master) := by simp [entC]
theorem entC_g4 (r : ERaw) (d : Entry) (h : 4 < (entC r d).size) : (entC r d)[4]'h = .int .i64 d.master := by simp [entC]
theorem entC_5 (r : ERaw) (d : Entry) : (entC r d)[5]? = some (.slice r.keys.a d.keys.length r.keys.cap) := by simp [entC]
theorem entC_g5 (r : ERaw) (d : Entry) (h : 5 < (entC r d).size) : (entC r d)[5]'h = .slice r.keys.a d.keys.length r.keys.cap := by simp [entC]
theorem entC_6 (r : ERaw) (d : Entry) : (entC r d)[6]? = some (.string d.policy) := by simp [entC]
theorem entC_g6 (r : ERaw) (d : Entry) (h : 6 < (entC r d).size) : (entC r d)[6]'h = .string d.policy := by simp [entC]
theorem entC_7 (r : ERaw) (d : Entry) : (entC r d)[7]? = some (.int .i64 d.expires) := by simp [entC]
theorem entC_g7 (r : ERaw) (d : Entry) (h : 7 < (entC r d).size) : (entC r d)[7]'h = .int .i64 d.expires := by simp [entC]
theorem entC_8 (r : ERaw) (d : Entry) : (entC r d)[8]? = some (.int .i64 d.pwExpires) := by simp [entC]
theorem entC_g8 (r : ERaw) (d : Entry) (h : 8 < (entC r d).size) : (entC r d)[8]'h = .int .i64 d.pwExpires := by simp [entC]
theorem entC_9 (r : ERaw) (d : Entry) : (entC r d)[9]? = some (.int .i64 d.maxLife) := by simp [entC]
theorem entC_g9 (r : ERaw) (d : Entry) (h : 9 < (entC r d).size) : (entC r d)[9]'h = .int .i64 d.maxLife := by simp [entC]
theorem entC_10 (r : ERaw) (d : Entry) : (entC r d)[10]? = some (.int .i64 d.maxRenew) := by simp [entC]
theorem entC_g10 (r : ERaw) (d : Entry) (h : 10 < (entC r d).size) : (entC r d)[10]'h = .int .i64 d.maxRenew := by simp [entC]
theorem entC_11 (r : ERaw) (d : Entry) : (entC r d)[11]? = some (.int .i64 d.fails) := by simp [entC]
theorem entC_g11 (r : ERaw) (d : Entry) (h : 11 < (entC r d).size) : (entC r d)[11]'h = .int .i64 d.fails := by simp [entC]
theorem entC_12 (r : ERaw) (d : Entry) : (entC r d)[12]? = some (.int .i64 d.lastFail) := by simp [entC]
theorem entC_g12 (r : ERaw) (d : Entry) (h : 12 < (entC r d).size) : (entC r d)[12]'h = .int .i64 d.lastFail := by simp [entC]
theorem entC_13 (r : ERaw) (d : Entry) : (entC r d)[13]? = some (.int .i64 d.lastSuccess) := by simp [entC]
theorem entC_g13 (r : ERaw) (d : Entry) (h : 13 < (entC r d).size) : (entC r d)[13]'h = .int .i64 d.lastSuccess := by simp [entC]
theorem entC_14 (r : ERaw) (d : Entry) : (entC r d)[14]? = some (.slice r.targets.a d.targets.length r.targets.cap) := by simp [entC]
theorem entC_g14 (r : ERaw) (d : Entry) (h : 14 < (entC r d).size) : (entC r d)[14]'h = .slice r.targets.a d.targets.length r.targets.cap := by simp [entC]
theorem entC_15 (r : ERaw) (d : Entry) : (entC r d)[15]? = some (.slice r.delegates.a d.delegates.length r.delegates.cap) := by simp [entC]
theorem entC_g15 (r : ERaw) (d : Entry) (h : 15 < (entC r d).size) : (entC r d)[15]'h = .slice r.delegates.a d.delegates.length r.delegates.cap := by simp [entC]
theorem entC_16 (r : ERaw) (d : Entry) : (entC r d)[16]? = some (.slice r.history.a d.history.length r.history.cap) := by simp [entC]
theorem entC_g16 (r : ERaw) (d : Entry) (h : 16 < (entC r d).size) : (entC r d)[16]'h = .slice r.history.a d.history.length r.history.cap := by simp [entC]
theorem entC_set_master (r : ERaw) (d : Entry) (v : Int) : (entC r d).setIfInBounds 4 (.int .i64 v) = entC r { d with master := v } := by kernel_rfl
theorem entC_set_expires (r : ERaw) (d : Entry) (v : Int) : (entC r d).setIfInBounds 7 (.int .i64 v) = entC r { d with expires := v } := by kernel_rfl
theorem entC_set_pwExpires (r : ERaw) (d : Entry) (v : Int) : (entC r d).setIfInBounds 8 (.int .i64 v) = entC r { d with pwExpires := v } := by kernel_rfl
theorem entC_set_maxLife (r : ERaw) (d : Entry) (v : Int) : (entC r d).setIfInBounds 9 (.int .i64 v) = entC r { d with maxLife := v } := by kernel_rfl
theorem entC_set_maxRenew (r : ERaw) (d : Entry) (v : Int) : (entC r d).setIfInBounds 10 (.int .i64 v) = entC r { d with maxRenew := v } := by kernel_rfl
theorem entC_set_fails (r : ERaw) (d : Entry) (v : Int) : (entC r d).setIfInBounds 11 (.int .i64 v) = entC r { d with fails := v } := by kernel_rfl
theorem entC_set_lastFail (r : ERaw) (d : Entry) (v : Int) : (entC r d).setIfInBounds 12 (.int .i64 v) = entC r { d with lastFail := v } := by kernel_rfl
theorem entC_set_lastSuccess (r : ERaw) (d : Entry) (v : Int) : (entC r d).setIfInBounds 13 (.int .i64 v) = entC r { d with lastSuccess := v } := by kernel_rfl
theorem entC_name (r : ERaw) (d : Entry) : subRow (entC r d) 0 2 = some (prinC r.parts d.name) := by kernel_rfl
attribute [go_sem] entC_size entC_one entC_0 entC_g0 entC_1 entC_g1 entC_2 entC_g2 entC_3 entC_g3 entC_4 entC_g4 entC_5 entC_g5 entC_6 entC_g6 entC_7 entC_g7 entC_8 entC_g8 entC_9 entC_g9 entC_10 entC_g10 entC_11 entC_g11 entC_12 entC_g12 entC_13 entC_g13 entC_14 entC_g14 entC_15 entC_g15 entC_16 entC_g16 entC_set_master entC_set_expires entC_set_pwExpires entC_set_maxLife entC_set_maxRenew entC_set_fails entC_set_lastFail entC_set_lastSuccess entC_name

/-- The cells of a value. -/
def polC (p : Policy) : Array Value := #[.string p.name, .int .i64 p.length, .int .i64 p.classes, .int .i64 p.distinct, .int .i64 p.history, .int .i64 p.minAge, .int .i64 p.maxAge, .int .i64 p.fails, .int .i64 p.window, .int .i64 p.lock]
theorem polC_size (p : Policy) : (polC p).size = 10 := by simp [polC]
theorem polC_lt (p : Policy) (j : Nat) (h : j < 10) : j < (polC p).size := h
theorem polC_one (p : Policy) : allOne (polC p) = true := by simp [allOne, polC, Value.oneCell']
theorem polC_0 (p : Policy) : (polC p)[0]? = some (.string p.name) := by simp [polC]
theorem polC_g0 (p : Policy) (h : 0 < (polC p).size) : (polC p)[0]'h = .string p.name := by simp [polC]
theorem polC_1 (p : Policy) : (polC p)[1]? = some (.int .i64 p.length) := by simp [polC]
theorem polC_g1 (p : Policy) (h : 1 < (polC p).size) : (polC p)[1]'h = .int .i64 p.length := by simp [polC]
theorem polC_2 (p : Policy) : (polC p)[2]? = some (.int .i64 p.classes) := by simp [polC]
theorem polC_g2 (p : Policy) (h : 2 < (polC p).size) : (polC p)[2]'h = .int .i64 p.classes := by simp [polC]
theorem polC_3 (p : Policy) : (polC p)[3]? = some (.int .i64 p.distinct) := by simp [polC]
theorem polC_g3 (p : Policy) (h : 3 < (polC p).size) : (polC p)[3]'h = .int .i64 p.distinct := by simp [polC]
theorem polC_4 (p : Policy) : (polC p)[4]? = some (.int .i64 p.history) := by simp [polC]
theorem polC_g4 (p : Policy) (h : 4 < (polC p).size) : (polC p)[4]'h = .int .i64 p.history := by simp [polC]
theorem polC_5 (p : Policy) : (polC p)[5]? = some (.int .i64 p.minAge) := by simp [polC]
theorem polC_g5 (p : Policy) (h : 5 < (polC p).size) : (polC p)[5]'h = .int .i64 p.minAge := by simp [polC]
theorem polC_6 (p : Policy) : (polC p)[6]? = some (.int .i64 p.maxAge) := by simp [polC]
theorem polC_g6 (p : Policy) (h : 6 < (polC p).size) : (polC p)[6]'h = .int .i64 p.maxAge := by simp [polC]
theorem polC_7 (p : Policy) : (polC p)[7]? = some (.int .i64 p.fails) := by simp [polC]
theorem polC_g7 (p : Policy) (h : 7 < (polC p).size) : (polC p)[7]'h = .int .i64 p.fails := by simp [polC]
theorem polC_8 (p : Policy) : (polC p)[8]? = some (.int .i64 p.window) := by simp [polC]
theorem polC_g8 (p : Policy) (h : 8 < (polC p).size) : (polC p)[8]'h = .int .i64 p.window := by simp [polC]
theorem polC_9 (p : Policy) : (polC p)[9]? = some (.int .i64 p.lock) := by simp [polC]
theorem polC_g9 (p : Policy) (h : 9 < (polC p).size) : (polC p)[9]'h = .int .i64 p.lock := by simp [polC]
attribute [go_sem] polC_size polC_one polC_0 polC_g0 polC_1 polC_g1 polC_2 polC_g2 polC_3 polC_g3 polC_4 polC_g4 polC_5 polC_g5 polC_6 polC_g6 polC_7 polC_g7 polC_8 polC_g8 polC_9 polC_g9

/-- The cells of a value. -/
def accC (r : ERaw) (d : Entry) (p : Policy) : Array Value := #[.slice r.parts.a d.name.parts.length r.parts.cap, .string d.name.realm, .slice r.aliases.a d.aliases.length r.aliases.cap, .int .u32 d.attrs, .int .i64 d.master, .slice r.keys.a d.keys.length r.keys.cap, .string d.policy, .int .i64 d.expires, .int .i64 d.pwExpires, .int .i64 d.maxLife, .int .i64 d.maxRenew, .int .i64 d.fails, .int .i64 d.lastFail, .int .i64 d.lastSuccess, .slice r.targets.a d.targets.length r.targets.cap, .slice r.delegates.a d.delegates.length r.delegates.cap, .slice r.history.a d.history.length r.history.cap, .string p.name, .int .i64 p.length, .int .i64 p.classes, .int .i64 p.distinct, .int .i64 p.history, .int .i64 p.minAge, .int .i64 p.maxAge, .int .i64 p.fails, .int .i64 p.window, .int .i64 p.lock]
theorem accC_size (r : ERaw) (d : Entry) (p : Policy) : (accC r d p).size = 27 := by simp [accC]
theorem accC_lt (r : ERaw) (d : Entry) (p : Policy) (j : Nat) (h : j < 27) : j < (accC r d p).size := h
theorem accC_one (r : ERaw) (d : Entry) (p : Policy) : allOne (accC r d p) = true := by simp [allOne, accC, Value.oneCell']
theorem accC_0 (r : ERaw) (d : Entry) (p : Policy) : (accC r d p)[0]? = some (.slice r.parts.a d.name.parts.length r.parts.cap) := by simp [accC]
theorem accC_g0 (r : ERaw) (d : Entry) (p : Policy) (h : 0 < (accC r d p).size) : (accC r d p)[0]'h = .slice r.parts.a d.name.parts.length r.parts.cap := by simp [accC]
theorem accC_1 (r : ERaw) (d : Entry) (p : Policy) : (accC r d p)[1]? = some (.string d.name.realm) := by simp [accC]
theorem accC_g1 (r : ERaw) (d : Entry) (p : Policy) (h : 1 < (accC r d p).size) : (accC r d p)[1]'h = .string d.name.realm := by simp [accC]
theorem accC_2 (r : ERaw) (d : Entry) (p : Policy) : (accC r d p)[2]? = some (.slice r.aliases.a d.aliases.length r.aliases.cap) := by simp [accC]
theorem accC_g2 (r : ERaw) (d : Entry) (p : Policy) (h : 2 < (accC r d p).size) : (accC r d p)[2]'h = .slice r.aliases.a d.aliases.length r.aliases.cap := by simp [accC]
theorem accC_3 (r : ERaw) (d : Entry) (p : Policy) : (accC r d p)[3]? = some (.int .u32 d.attrs) := by simp [accC]
theorem accC_g3 (r : ERaw) (d : Entry) (p : Policy) (h : 3 < (accC r d p).size) : (accC r d p)[3]'h = .int .u32 d.attrs := by simp [accC]
theorem accC_4 (r : ERaw) (d : Entry) (p : Policy) : (accC r d p)[4]? = some (.int .i64 d.master) := by simp [accC]
theorem accC_g4 (r : ERaw) (d : Entry) (p : Policy) (h : 4 < (accC r d p).size) : (accC r d p)[4]'h = .int .i64 d.master := by simp [accC]
theorem accC_5 (r : ERaw) (d : Entry) (p : Policy) : (accC r d p)[5]? = some (.slice r.keys.a d.keys.length r.keys.cap) := by simp [accC]
theorem accC_g5 (r : ERaw) (d : Entry) (p : Policy) (h : 5 < (accC r d p).size) : (accC r d p)[5]'h = .slice r.keys.a d.keys.length r.keys.cap := by simp [accC]
theorem accC_6 (r : ERaw) (d : Entry) (p : Policy) : (accC r d p)[6]? = some (.string d.policy) := by simp [accC]
theorem accC_g6 (r : ERaw) (d : Entry) (p : Policy) (h : 6 < (accC r d p).size) : (accC r d p)[6]'h = .string d.policy := by simp [accC]
theorem accC_7 (r : ERaw) (d : Entry) (p : Policy) : (accC r d p)[7]? = some (.int .i64 d.expires) := by simp [accC]
theorem accC_g7 (r : ERaw) (d : Entry) (p : Policy) (h : 7 < (accC r d p).size) : (accC r d p)[7]'h = .int .i64 d.expires := by simp [accC]
theorem accC_8 (r : ERaw) (d : Entry) (p : Policy) : (accC r d p)[8]? = some (.int .i64 d.pwExpires) := by simp [accC]
theorem accC_g8 (r : ERaw) (d : Entry) (p : Policy) (h : 8 < (accC r d p).size) : (accC r d p)[8]'h = .int .i64 d.pwExpires := by simp [accC]
theorem accC_9 (r : ERaw) (d : Entry) (p : Policy) : (accC r d p)[9]? = some (.int .i64 d.maxLife) := by simp [accC]
theorem accC_g9 (r : ERaw) (d : Entry) (p : Policy) (h : 9 < (accC r d p).size) : (accC r d p)[9]'h = .int .i64 d.maxLife := by simp [accC]
theorem accC_10 (r : ERaw) (d : Entry) (p : Policy) : (accC r d p)[10]? = some (.int .i64 d.maxRenew) := by simp [accC]
theorem accC_g10 (r : ERaw) (d : Entry) (p : Policy) (h : 10 < (accC r d p).size) : (accC r d p)[10]'h = .int .i64 d.maxRenew := by simp [accC]
theorem accC_11 (r : ERaw) (d : Entry) (p : Policy) : (accC r d p)[11]? = some (.int .i64 d.fails) := by simp [accC]
theorem accC_g11 (r : ERaw) (d : Entry) (p : Policy) (h : 11 < (accC r d p).size) : (accC r d p)[11]'h = .int .i64 d.fails := by simp [accC]
theorem accC_12 (r : ERaw) (d : Entry) (p : Policy) : (accC r d p)[12]? = some (.int .i64 d.lastFail) := by simp [accC]
theorem accC_g12 (r : ERaw) (d : Entry) (p : Policy) (h : 12 < (accC r d p).size) : (accC r d p)[12]'h = .int .i64 d.lastFail := by simp [accC]
theorem accC_13 (r : ERaw) (d : Entry) (p : Policy) : (accC r d p)[13]? = some (.int .i64 d.lastSuccess) := by simp [accC]
theorem accC_g13 (r : ERaw) (d : Entry) (p : Policy) (h : 13 < (accC r d p).size) : (accC r d p)[13]'h = .int .i64 d.lastSuccess := by simp [accC]
theorem accC_14 (r : ERaw) (d : Entry) (p : Policy) : (accC r d p)[14]? = some (.slice r.targets.a d.targets.length r.targets.cap) := by simp [accC]
theorem accC_g14 (r : ERaw) (d : Entry) (p : Policy) (h : 14 < (accC r d p).size) : (accC r d p)[14]'h = .slice r.targets.a d.targets.length r.targets.cap := by simp [accC]
theorem accC_15 (r : ERaw) (d : Entry) (p : Policy) : (accC r d p)[15]? = some (.slice r.delegates.a d.delegates.length r.delegates.cap) := by simp [accC]
theorem accC_g15 (r : ERaw) (d : Entry) (p : Policy) (h : 15 < (accC r d p).size) : (accC r d p)[15]'h = .slice r.delegates.a d.delegates.length r.delegates.cap := by simp [accC]
theorem accC_16 (r : ERaw) (d : Entry) (p : Policy) : (accC r d p)[16]? = some (.slice r.history.a d.history.length r.history.cap) := by simp [accC]
theorem accC_g16 (r : ERaw) (d : Entry) (p : Policy) (h : 16 < (accC r d p).size) : (accC r d p)[16]'h = .slice r.history.a d.history.length r.history.cap := by simp [accC]
theorem accC_17 (r : ERaw) (d : Entry) (p : Policy) : (accC r d p)[17]? = some (.string p.name) := by simp [accC]
theorem accC_g17 (r : ERaw) (d : Entry) (p : Policy) (h : 17 < (accC r d p).size) : (accC r d p)[17]'h = .string p.name := by simp [accC]
theorem accC_18 (r : ERaw) (d : Entry) (p : Policy) : (accC r d p)[18]? = some (.int .i64 p.length) := by simp [accC]
theorem accC_g18 (r : ERaw) (d : Entry) (p : Policy) (h : 18 < (accC r d p).size) : (accC r d p)[18]'h = .int .i64 p.length := by simp [accC]
theorem accC_19 (r : ERaw) (d : Entry) (p : Policy) : (accC r d p)[19]? = some (.int .i64 p.classes) := by simp [accC]
theorem accC_g19 (r : ERaw) (d : Entry) (p : Policy) (h : 19 < (accC r d p).size) : (accC r d p)[19]'h = .int .i64 p.classes := by simp [accC]
theorem accC_20 (r : ERaw) (d : Entry) (p : Policy) : (accC r d p)[20]? = some (.int .i64 p.distinct) := by simp [accC]
theorem accC_g20 (r : ERaw) (d : Entry) (p : Policy) (h : 20 < (accC r d p).size) : (accC r d p)[20]'h = .int .i64 p.distinct := by simp [accC]
theorem accC_21 (r : ERaw) (d : Entry) (p : Policy) : (accC r d p)[21]? = some (.int .i64 p.history) := by simp [accC]
theorem accC_g21 (r : ERaw) (d : Entry) (p : Policy) (h : 21 < (accC r d p).size) : (accC r d p)[21]'h = .int .i64 p.history := by simp [accC]
theorem accC_22 (r : ERaw) (d : Entry) (p : Policy) : (accC r d p)[22]? = some (.int .i64 p.minAge) := by simp [accC]
theorem accC_g22 (r : ERaw) (d : Entry) (p : Policy) (h : 22 < (accC r d p).size) : (accC r d p)[22]'h = .int .i64 p.minAge := by simp [accC]
theorem accC_23 (r : ERaw) (d : Entry) (p : Policy) : (accC r d p)[23]? = some (.int .i64 p.maxAge) := by simp [accC]
theorem accC_g23 (r : ERaw) (d : Entry) (p : Policy) (h : 23 < (accC r d p).size) : (accC r d p)[23]'h = .int .i64 p.maxAge := by simp [accC]
theorem accC_24 (r : ERaw) (d : Entry) (p : Policy) : (accC r d p)[24]? = some (.int .i64 p.fails) := by simp [accC]
theorem accC_g24 (r : ERaw) (d : Entry) (p : Policy) (h : 24 < (accC r d p).size) : (accC r d p)[24]'h = .int .i64 p.fails := by simp [accC]
theorem accC_25 (r : ERaw) (d : Entry) (p : Policy) : (accC r d p)[25]? = some (.int .i64 p.window) := by simp [accC]
theorem accC_g25 (r : ERaw) (d : Entry) (p : Policy) (h : 25 < (accC r d p).size) : (accC r d p)[25]'h = .int .i64 p.window := by simp [accC]
theorem accC_26 (r : ERaw) (d : Entry) (p : Policy) : (accC r d p)[26]? = some (.int .i64 p.lock) := by simp [accC]
theorem accC_g26 (r : ERaw) (d : Entry) (p : Policy) (h : 26 < (accC r d p).size) : (accC r d p)[26]'h = .int .i64 p.lock := by simp [accC]
theorem accC_set_master (r : ERaw) (d : Entry) (p : Policy) (v : Int) : (accC r d p).setIfInBounds 4 (.int .i64 v) = accC r { d with master := v } p := by kernel_rfl
theorem accC_set_expires (r : ERaw) (d : Entry) (p : Policy) (v : Int) : (accC r d p).setIfInBounds 7 (.int .i64 v) = accC r { d with expires := v } p := by kernel_rfl
theorem accC_set_pwExpires (r : ERaw) (d : Entry) (p : Policy) (v : Int) : (accC r d p).setIfInBounds 8 (.int .i64 v) = accC r { d with pwExpires := v } p := by kernel_rfl
theorem accC_set_maxLife (r : ERaw) (d : Entry) (p : Policy) (v : Int) : (accC r d p).setIfInBounds 9 (.int .i64 v) = accC r { d with maxLife := v } p := by kernel_rfl
theorem accC_set_maxRenew (r : ERaw) (d : Entry) (p : Policy) (v : Int) : (accC r d p).setIfInBounds 10 (.int .i64 v) = accC r { d with maxRenew := v } p := by kernel_rfl
theorem accC_set_fails (r : ERaw) (d : Entry) (p : Policy) (v : Int) : (accC r d p).setIfInBounds 11 (.int .i64 v) = accC r { d with fails := v } p := by kernel_rfl
theorem accC_set_lastFail (r : ERaw) (d : Entry) (p : Policy) (v : Int) : (accC r d p).setIfInBounds 12 (.int .i64 v) = accC r { d with lastFail := v } p := by kernel_rfl
theorem accC_set_lastSuccess (r : ERaw) (d : Entry) (p : Policy) (v : Int) : (accC r d p).setIfInBounds 13 (.int .i64 v) = accC r { d with lastSuccess := v } p := by kernel_rfl
theorem accC_sub0 (r : ERaw) (d : Entry) (p : Policy) : subRow (accC r d p) 0 17 = some (entC r d) := by kernel_rfl
theorem accC_sub1 (r : ERaw) (d : Entry) (p : Policy) : subRow (accC r d p) 17 10 = some (polC p) := by kernel_rfl
theorem accC_sub2 (r : ERaw) (d : Entry) (p : Policy) : subRow (accC r d p) 0 2 = some (prinC r.parts d.name) := by kernel_rfl
theorem accC_ent (r : ERaw) (d : Entry) (p : Policy) : (accC r d p).extract 0 17 = entC r d := by kernel_rfl
theorem accC_pol (r : ERaw) (d : Entry) (p : Policy) : (accC r d p).extract 17 27 = polC p := by kernel_rfl
attribute [go_sem] accC_size accC_one accC_0 accC_g0 accC_1 accC_g1 accC_2 accC_g2 accC_3 accC_g3 accC_4 accC_g4 accC_5 accC_g5 accC_6 accC_g6 accC_7 accC_g7 accC_8 accC_g8 accC_9 accC_g9 accC_10 accC_g10 accC_11 accC_g11 accC_12 accC_g12 accC_13 accC_g13 accC_14 accC_g14 accC_15 accC_g15 accC_16 accC_g16 accC_17 accC_g17 accC_18 accC_g18 accC_19 accC_g19 accC_20 accC_g20 accC_21 accC_g21 accC_22 accC_g22 accC_23 accC_g23 accC_24 accC_g24 accC_25 accC_g25 accC_26 accC_g26 accC_set_master accC_set_expires accC_set_pwExpires accC_set_maxLife accC_set_maxRenew accC_set_fails accC_set_lastFail accC_set_lastSuccess accC_sub0 accC_sub1 accC_sub2 accC_ent accC_pol

end Go.WW
/- How the plain data lie in memory. -/
namespace Go.WW
open Go.RowKit

/-- No list and no string that is looked at is longer. -/
def lim : Nat := 4294967000

section
variable (w : World)

/-- A list whose i-th element lies in the k cells from i * k on: 'R i' says what they are. -/
def RowsAt (k : Nat) (a : Option Addr) (n : Nat) (R : Nat → Array Value → Prop) : Prop :=
  n ≤ lim ∧ ∀ i, i < n → ∃ b o cs, a = some ⟨b, o, none⟩ ∧ row? w b (o + i * k) k = some cs ∧ R i cs
/-- A list whose i-th element lies in one cell. -/
def CellsAt (a : Option Addr) (n : Nat) (R : Nat → Value → Prop) : Prop :=
  n ≤ lim ∧ ∀ i, i < n → ∃ b o v, a = some ⟨b, o, none⟩ ∧ w.cell? ⟨b, o + i, none⟩ = some v ∧ R i v

def StrsAt (a : Option Addr) (l : List ByteArray) : Prop := CellsAt w a l.length fun i v => ∃ s, l[i]? = some s ∧ v = .string s ∧ s.size ≤ lim
def BytesAt (a : Option Addr) (l : List UInt8) : Prop := CellsAt w a l.length fun i v => ∃ c, l[i]? = some c ∧ v = .int .u8 c.toNat
def IntsAt (a : Option Addr) (l : List Int) : Prop := CellsAt w a l.length fun i v => ∃ c, l[i]? = some c ∧ v = .int .i64 c
def BoolsAt (a : Option Addr) (l : List Bool) : Prop := CellsAt w a l.length fun i v => ∃ c, l[i]? = some c ∧ v = .bool c
/-- What a principal's cells lead to. -/
def PrinAt (s : Sl) (p : Prin) : Prop := StrsAt w s.a p.parts ∧ p.realm.size ≤ lim
def PrinsAt (a : Option Addr) (l : List Prin) : Prop := RowsAt w 2 a l.length fun i cs => ∃ p s, l[i]? = some p ∧ cs = prinC s p ∧ PrinAt w s p
def KeyAt (s : Sl) (k : Key) : Prop := BytesAt w s.a k.bytes
def KeysAt (a : Option Addr) (l : List Key) : Prop := RowsAt w 3 a l.length fun i cs => ∃ k s, l[i]? = some k ∧ cs = keyC s k ∧ KeyAt w s k
def SetAt (s : Sl) (k : KeySet) : Prop := KeysAt w s.a k.keys ∧ k.salt.size ≤ lim
def SetsAt (a : Option Addr) (l : List KeySet) : Prop := RowsAt w 5 a l.length fun i cs => ∃ k s, l[i]? = some k ∧ cs = setC s k ∧ SetAt w s k
def HistAt (a : Option Addr) (l : List (List UInt8)) : Prop := CellsAt w a l.length fun i v => ∃ x, ∃ s : Sl, l[i]? = some x ∧ v = .slice s.a x.length s.cap ∧ BytesAt w s.a x

structure EntAt (r : ERaw) (d : Entry) : Prop where
  name : PrinAt w r.parts d.name
  aliases : PrinsAt w r.aliases.a d.aliases
  keys : SetsAt w r.keys.a d.keys
  targets : PrinsAt w r.targets.a d.targets
  delegates : PrinsAt w r.delegates.a d.delegates
  history : HistAt w r.history.a d.history
  policy : d.policy.size ≤ lim
  attrs : 0 ≤ d.attrs ∧ d.attrs ≤ 4294967295
end

section
variable {w w' : World} (h : Below w.heap.size w w')
include h

theorem RowsAt.later {k : Nat} {a : Option Addr} {n : Nat} {R R' : Nat → Array Value → Prop} (hR : ∀ i cs, R i cs → R' i cs) (x : RowsAt w k a n R) : RowsAt w' k a n R' := by
  refine ⟨x.1, fun i hi => ?_⟩
  obtain ⟨b, o, cs, ha, hr, hR1⟩ := x.2 i hi
  exact ⟨b, o, cs, ha, by rw [row?_of_block (h.block b (row?_lt hr))]; exact hr, hR i cs hR1⟩
theorem CellsAt.later {a : Option Addr} {n : Nat} {R R' : Nat → Value → Prop} (hR : ∀ i cs, R i cs → R' i cs) (x : CellsAt w a n R) : CellsAt w' a n R' := by
  refine ⟨x.1, fun i hi => ?_⟩
  obtain ⟨b, o, cs, ha, hr, hR1⟩ := x.2 i hi
  exact ⟨b, o, cs, ha, by rw [h.cell (World.block_lt_of_cell? w _ hr)]; exact hr, hR i cs hR1⟩
theorem StrsAt.later {a : Option Addr} {l : List ByteArray} (x : StrsAt w a l) : StrsAt w' a l := CellsAt.later h (fun _ _ y => y) x
theorem BytesAt.later {a : Option Addr} {l : List UInt8} (x : BytesAt w a l) : BytesAt w' a l := CellsAt.later h (fun _ _ y => y) x
theorem IntsAt.later {a : Option Addr} {l : List Int} (x : IntsAt w a l) : IntsAt w' a l := CellsAt.later h (fun _ _ y => y) x
theorem BoolsAt.later {a : Option Addr} {l : List Bool} (x : BoolsAt w a l) : BoolsAt w' a l := CellsAt.later h (fun _ _ y => y) x
theorem PrinAt.later {s : Sl} {p : Prin} (x : PrinAt w s p) : PrinAt w' s p := ⟨x.1.later h, x.2⟩
theorem PrinsAt.later {a : Option Addr} {l : List Prin} (x : PrinsAt w a l) : PrinsAt w' a l := RowsAt.later h (fun _ _ ⟨p, s, y1, y2, y3⟩ => ⟨p, s, y1, y2, y3.later h⟩) x
theorem KeyAt.later {s : Sl} {k : Key} (x : KeyAt w s k) : KeyAt w' s k := BytesAt.later h x
theorem KeysAt.later {a : Option Addr} {l : List Key} (x : KeysAt w a l) : KeysAt w' a l := RowsAt.later h (fun _ _ ⟨p, s, y1, y2, y3⟩ => ⟨p, s, y1, y2, y3.later h⟩) x
theorem SetAt.later {s : Sl} {k : KeySet} (x : SetAt w s k) : SetAt w' s k := ⟨x.1.later h, x.2⟩
theorem SetsAt.later {a : Option Addr} {l : List KeySet} (x : SetsAt w a l) : SetsAt w' a l := RowsAt.later h (fun _ _ ⟨p, s, y1, y2, y3⟩ => ⟨p, s, y1, y2, y3.later h⟩) x
theorem HistAt.later {a : Option Addr} {l : List (List UInt8)} (x : HistAt w a l) : HistAt w' a l := CellsAt.later h (fun _ _ ⟨p, s, y1, y2, y3⟩ => ⟨p, s, y1, y2, y3.later h⟩) x
theorem EntAt.later {r : ERaw} {d : Entry} (x : EntAt w r d) : EntAt w' r d :=
  ⟨x.name.later h, x.aliases.later h, x.keys.later h, x.targets.later h, x.delegates.later h, x.history.later h, x.policy, x.attrs⟩
end

section
variable {w : World} {a : Option Addr}
theorem StrsAt.get {l : List ByteArray} (x : StrsAt w a l) (i : Nat) (h : i < l.length) : ∃ b o, a = some ⟨b, o, none⟩ ∧ w.cell? ⟨b, o + i, none⟩ = some (.string l[i]) ∧ l[i].size ≤ lim := by
  obtain ⟨b, o, v, h1, h2, s, h3, rfl, h4⟩ := x.2 i h
  rw [List.getElem?_eq_getElem h] at h3; cases h3
  exact ⟨b, o, h1, h2, h4⟩
theorem BytesAt.get {l : List UInt8} (x : BytesAt w a l) (i : Nat) (h : i < l.length) : ∃ b o, a = some ⟨b, o, none⟩ ∧ w.cell? ⟨b, o + i, none⟩ = some (.int .u8 l[i].toNat) := by
  obtain ⟨b, o, v, h1, h2, s, h3, rfl⟩ := x.2 i h
  rw [List.getElem?_eq_getElem h] at h3; cases h3
  exact ⟨b, o, h1, h2⟩
theorem IntsAt.get {l : List Int} (x : IntsAt w a l) (i : Nat) (h : i < l.length) : ∃ b o, a = some ⟨b, o, none⟩ ∧ w.cell? ⟨b, o + i, none⟩ = some (.int .i64 l[i]) := by
  obtain ⟨b, o, v, h1, h2, s, h3, rfl⟩ := x.2 i h
  rw [List.getElem?_eq_getElem h] at h3; cases h3
  exact ⟨b, o, h1, h2⟩
theorem BoolsAt.get {l : List Bool} (x : BoolsAt w a l) (i : Nat) (h : i < l.length) : ∃ b o, a = some ⟨b, o, none⟩ ∧ w.cell? ⟨b, o + i, none⟩ = some (.bool l[i]) := by
  obtain ⟨b, o, v, h1, h2, s, h3, rfl⟩ := x.2 i h
  rw [List.getElem?_eq_getElem h] at h3; cases h3
  exact ⟨b, o, h1, h2⟩
theorem PrinsAt.get {l : List Prin} (x : PrinsAt w a l) (i : Nat) (h : i < l.length) : ∃ b o s, a = some ⟨b, o, none⟩ ∧ row? w b (o + i * 2) 2 = some (prinC s l[i]) ∧ PrinAt w s l[i] := by
  obtain ⟨b, o, v, h1, h2, p, s, h3, rfl, h4⟩ := x.2 i h
  rw [List.getElem?_eq_getElem h] at h3; cases h3
  exact ⟨b, o, s, h1, h2, h4⟩
theorem KeysAt.get {l : List Key} (x : KeysAt w a l) (i : Nat) (h : i < l.length) : ∃ b o s, a = some ⟨b, o, none⟩ ∧ row? w b (o + i * 3) 3 = some (keyC s l[i]) ∧ KeyAt w s l[i] := by
  obtain ⟨b, o, v, h1, h2, p, s, h3, rfl, h4⟩ := x.2 i h
  rw [List.getElem?_eq_getElem h] at h3; cases h3
  exact ⟨b, o, s, h1, h2, h4⟩
theorem SetsAt.get {l : List KeySet} (x : SetsAt w a l) (i : Nat) (h : i < l.length) : ∃ b o s, a = some ⟨b, o, none⟩ ∧ row? w b (o + i * 5) 5 = some (setC s l[i]) ∧ SetAt w s l[i] := by
  obtain ⟨b, o, v, h1, h2, p, s, h3, rfl, h4⟩ := x.2 i h
  rw [List.getElem?_eq_getElem h] at h3; cases h3
  exact ⟨b, o, s, h1, h2, h4⟩
theorem HistAt.get {l : List (List UInt8)} (x : HistAt w a l) (i : Nat) (h : i < l.length) : ∃ b o, ∃ s : Sl, a = some ⟨b, o, none⟩ ∧ w.cell? ⟨b, o + i, none⟩ = some (.slice s.a l[i].length s.cap) ∧ BytesAt w s.a l[i] := by
  obtain ⟨b, o, v, h1, h2, p, s, h3, rfl, h4⟩ := x.2 i h
  rw [List.getElem?_eq_getElem h] at h3; cases h3
  exact ⟨b, o, s, h1, h2, h4⟩
end

theorem RowsAt.addr {w : World} {k n : Nat} {a : Option Addr} {R : Nat → Array Value → Prop} (x : RowsAt w k a n R) : n = 0 ∨ ∃ b o, a = some ⟨b, o, none⟩ ∧ b < w.heap.size := by
  rcases Nat.eq_zero_or_pos n with h | h
  · exact .inl h
  · obtain ⟨b, o, cs, ha, hr, _⟩ := x.2 0 h
    exact .inr ⟨b, o, ha, row?_lt hr⟩
theorem CellsAt.addr {w : World} {n : Nat} {a : Option Addr} {R : Nat → Value → Prop} (x : CellsAt w a n R) : n = 0 ∨ ∃ b o, a = some ⟨b, o, none⟩ ∧ b < w.heap.size := by
  rcases Nat.eq_zero_or_pos n with h | h
  · exact .inl h
  · obtain ⟨b, o, v, ha, hr, _⟩ := x.2 0 h
    exact .inr ⟨b, o, ha, World.block_lt_of_cell? w _ hr⟩
theorem StrsAt.at {w : World} {b o : Nat} {l : List ByteArray} (x : StrsAt w (some ⟨b, o, none⟩) l) (i : Nat) (h : i < l.length) : w.cell? ⟨b, o + i, none⟩ = some (.string l[i]) ∧ l[i].size ≤ lim := by
  obtain ⟨b', o', ha, hc, hs⟩ := x.get i h; cases ha; exact ⟨hc, hs⟩
theorem BytesAt.at {w : World} {b o : Nat} {l : List UInt8} (x : BytesAt w (some ⟨b, o, none⟩) l) (i : Nat) (h : i < l.length) : w.cell? ⟨b, o + i, none⟩ = some (.int .u8 l[i].toNat) := by
  obtain ⟨b', o', ha, hc⟩ := x.get i h; cases ha; exact hc
theorem IntsAt.at {w : World} {b o : Nat} {l : List Int} (x : IntsAt w (some ⟨b, o, none⟩) l) (i : Nat) (h : i < l.length) : w.cell? ⟨b, o + i, none⟩ = some (.int .i64 l[i]) := by
  obtain ⟨b', o', ha, hc⟩ := x.get i h; cases ha; exact hc
theorem BoolsAt.at {w : World} {b o : Nat} {l : List Bool} (x : BoolsAt w (some ⟨b, o, none⟩) l) (i : Nat) (h : i < l.length) : w.cell? ⟨b, o + i, none⟩ = some (.bool l[i]) := by
  obtain ⟨b', o', ha, hc⟩ := x.get i h; cases ha; exact hc
theorem PrinsAt.at {w : World} {b o : Nat} {l : List Prin} (x : PrinsAt w (some ⟨b, o, none⟩) l) (i : Nat) (h : i < l.length) : ∃ s, row? w b (o + i * 2) 2 = some (prinC s l[i]) ∧ PrinAt w s l[i] := by
  obtain ⟨b', o', s, ha, hc⟩ := x.get i h; cases ha; exact ⟨s, hc⟩
theorem KeysAt.at {w : World} {b o : Nat} {l : List Key} (x : KeysAt w (some ⟨b, o, none⟩) l) (i : Nat) (h : i < l.length) : ∃ s, row? w b (o + i * 3) 3 = some (keyC s l[i]) ∧ KeyAt w s l[i] := by
  obtain ⟨b', o', s, ha, hc⟩ := x.get i h; cases ha; exact ⟨s, hc⟩
theorem SetsAt.at {w : World} {b o : Nat} {l : List KeySet} (x : SetsAt w (some ⟨b, o, none⟩) l) (i : Nat) (h : i < l.length) : ∃ s, row? w b (o + i * 5) 5 = some (setC s l[i]) ∧ SetAt w s l[i] := by
  obtain ⟨b', o', s, ha, hc⟩ := x.get i h; cases ha; exact ⟨s, hc⟩
theorem HistAt.at {w : World} {b o : Nat} {l : List (List UInt8)} (x : HistAt w (some ⟨b, o, none⟩) l) (i : Nat) (h : i < l.length) : ∃ s : Sl, w.cell? ⟨b, o + i, none⟩ = some (.slice s.a l[i].length s.cap) ∧ BytesAt w s.a l[i] := by
  obtain ⟨b', o', s, ha, hc⟩ := x.get i h; cases ha; exact ⟨s, hc⟩
end Go.WW
/- The loads of this program's structs, whole. -/
namespace Go.Proofs.YthbialpbkpiekaaGreatDoor
open Go.RowKit Go.WW

/-- The making of a struct, kept whole from the walk's rules. -/
def structBuild (T : TypeId) (parts : Array (Nat × Value)) : Sem Next := do pure (.value (← Instr.build T parts))
theorem loadPrincipal (w : World) (b o : Nat) : (structLoad 37 (.pointer (some ⟨b, o, none⟩))).run Tryz.prog w = rowOut Tryz.prog 37 w b o (row? w b o 2) := run_structLoad Tryz.underlying37 rfl (by kernel_rfl) w b o
theorem execOp_loadPrincipal (ρ : Operand → Value) (dst : Option Tmp) (x : Operand) (ty : TypeId) (pos : String) (after : Array Edge) (guard : Option (Nat × Bool)) : execOp ρ { dst, op := .load 37 x, type := ty, pos, after, guard } = structLoad 37 (ρ x) := rfl
attribute [go_sem] loadPrincipal
attribute [go_sem ↓] execOp_loadPrincipal
theorem loadKey (w : World) (b o : Nat) : (structLoad 234 (.pointer (some ⟨b, o, none⟩))).run Tryz.prog w = rowOut Tryz.prog 234 w b o (row? w b o 3) := run_structLoad Tryz.underlying234 rfl (by kernel_rfl) w b o
theorem execOp_loadKey (ρ : Operand → Value) (dst : Option Tmp) (x : Operand) (ty : TypeId) (pos : String) (after : Array Edge) (guard : Option (Nat × Bool)) : execOp ρ { dst, op := .load 234 x, type := ty, pos, after, guard } = structLoad 234 (ρ x) := rfl
attribute [go_sem] loadKey
attribute [go_sem ↓] execOp_loadKey
theorem loadKeySet (w : World) (b o : Nat) : (structLoad 186 (.pointer (some ⟨b, o, none⟩))).run Tryz.prog w = rowOut Tryz.prog 186 w b o (row? w b o 5) := run_structLoad Tryz.underlying186 rfl (by kernel_rfl) w b o
theorem execOp_loadKeySet (ρ : Operand → Value) (dst : Option Tmp) (x : Operand) (ty : TypeId) (pos : String) (after : Array Edge) (guard : Option (Nat × Bool)) : execOp ρ { dst, op := .load 186 x, type := ty, pos, after, guard } = structLoad 186 (ρ x) := rfl
attribute [go_sem] loadKeySet
attribute [go_sem ↓] execOp_loadKeySet
theorem loadEntry (w : World) (b o : Nat) : (structLoad 44 (.pointer (some ⟨b, o, none⟩))).run Tryz.prog w = rowOut Tryz.prog 44 w b o (row? w b o 17) := run_structLoad Tryz.underlying44 rfl (by kernel_rfl) w b o
theorem execOp_loadEntry (ρ : Operand → Value) (dst : Option Tmp) (x : Operand) (ty : TypeId) (pos : String) (after : Array Edge) (guard : Option (Nat × Bool)) : execOp ρ { dst, op := .load 44 x, type := ty, pos, after, guard } = structLoad 44 (ρ x) := rfl
attribute [go_sem] loadEntry
attribute [go_sem ↓] execOp_loadEntry
theorem loadPolicy (w : World) (b o : Nat) : (structLoad 46 (.pointer (some ⟨b, o, none⟩))).run Tryz.prog w = rowOut Tryz.prog 46 w b o (row? w b o 10) := run_structLoad Tryz.underlying46 rfl (by kernel_rfl) w b o
theorem execOp_loadPolicy (ρ : Operand → Value) (dst : Option Tmp) (x : Operand) (ty : TypeId) (pos : String) (after : Array Edge) (guard : Option (Nat × Bool)) : execOp ρ { dst, op := .load 46 x, type := ty, pos, after, guard } = structLoad 46 (ρ x) := rfl
attribute [go_sem] loadPolicy
attribute [go_sem ↓] execOp_loadPolicy
theorem storePrincipal (w : World) (b o : Nat) (cs : Array Value) (hn : cs.size = 2) (h1 : allOne cs = true) : (structStore 37 (.pointer (some ⟨b, o, none⟩)) (.agg cs)).run Tryz.prog w = storeOut Tryz.prog 37 w b o cs (canPut w b o 2) := run_structStore (by kernel_rfl) w b o cs hn h1
theorem execOp_storePrincipal (ρ : Operand → Value) (dst : Option Tmp) (x y : Operand) (ty : TypeId) (pos : String) (after : Array Edge) (guard : Option (Nat × Bool)) : execOp ρ { dst, op := .store 37 x y, type := ty, pos, after, guard } = structStore 37 (ρ x) (ρ y) := rfl
attribute [go_sem] storePrincipal
attribute [go_sem ↓] execOp_storePrincipal
theorem storeKey (w : World) (b o : Nat) (cs : Array Value) (hn : cs.size = 3) (h1 : allOne cs = true) : (structStore 234 (.pointer (some ⟨b, o, none⟩)) (.agg cs)).run Tryz.prog w = storeOut Tryz.prog 234 w b o cs (canPut w b o 3) := run_structStore (by kernel_rfl) w b o cs hn h1
theorem execOp_storeKey (ρ : Operand → Value) (dst : Option Tmp) (x y : Operand) (ty : TypeId) (pos : String) (after : Array Edge) (guard : Option (Nat × Bool)) : execOp ρ { dst, op := .store 234 x y, type := ty, pos, after, guard } = structStore 234 (ρ x) (ρ y) := rfl
attribute [go_sem] storeKey
attribute [go_sem ↓] execOp_storeKey
theorem storeKeySet (w : World) (b o : Nat) (cs : Array Value) (hn : cs.size = 5) (h1 : allOne cs = true) : (structStore 186 (.pointer (some ⟨b, o, none⟩)) (.agg cs)).run Tryz.prog w = storeOut Tryz.prog 186 w b o cs (canPut w b o 5) := run_structStore (by kernel_rfl) w b o cs hn h1
theorem execOp_storeKeySet (ρ : Operand → Value) (dst : Option Tmp) (x y : Operand) (ty : TypeId) (pos : String) (after : Array Edge) (guard : Option (Nat × Bool)) : execOp ρ { dst, op := .store 186 x y, type := ty, pos, after, guard } = structStore 186 (ρ x) (ρ y) := rfl
attribute [go_sem] storeKeySet
attribute [go_sem ↓] execOp_storeKeySet
theorem storeEntry (w : World) (b o : Nat) (cs : Array Value) (hn : cs.size = 17) (h1 : allOne cs = true) : (structStore 44 (.pointer (some ⟨b, o, none⟩)) (.agg cs)).run Tryz.prog w = storeOut Tryz.prog 44 w b o cs (canPut w b o 17) := run_structStore (by kernel_rfl) w b o cs hn h1
theorem execOp_storeEntry (ρ : Operand → Value) (dst : Option Tmp) (x y : Operand) (ty : TypeId) (pos : String) (after : Array Edge) (guard : Option (Nat × Bool)) : execOp ρ { dst, op := .store 44 x y, type := ty, pos, after, guard } = structStore 44 (ρ x) (ρ y) := rfl
attribute [go_sem] storeEntry
attribute [go_sem ↓] execOp_storeEntry
theorem storePolicy (w : World) (b o : Nat) (cs : Array Value) (hn : cs.size = 10) (h1 : allOne cs = true) : (structStore 46 (.pointer (some ⟨b, o, none⟩)) (.agg cs)).run Tryz.prog w = storeOut Tryz.prog 46 w b o cs (canPut w b o 10) := run_structStore (by kernel_rfl) w b o cs hn h1
theorem execOp_storePolicy (ρ : Operand → Value) (dst : Option Tmp) (x y : Operand) (ty : TypeId) (pos : String) (after : Array Edge) (guard : Option (Nat × Bool)) : execOp ρ { dst, op := .store 46 x y, type := ty, pos, after, guard } = structStore 46 (ρ x) (ρ y) := rfl
attribute [go_sem] storePolicy
attribute [go_sem ↓] execOp_storePolicy
end Go.Proofs.YthbialpbkpiekaaGreatDoor
