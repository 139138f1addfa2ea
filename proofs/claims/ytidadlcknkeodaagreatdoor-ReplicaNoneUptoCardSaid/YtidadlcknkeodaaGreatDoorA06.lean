/- A part of the proof. -/
import Derived.Test.YtidadlcknkeodaaGreatDoorA04
import Derived.Lib.Bytealg
import Derived.Shelf.LaysM
import Derived.Shelf.Strings.OnBuilder
import Derived.Shelf.Strings.Shaped
import Derived.Test.YtidadlcknkeodaaGreatDoorProg
import Derived.WalkKit
import Derived.WalkLawsBesides
import Derived.WalkSpells
import Derived.Deep.QuietTactic
import Derived.BigQuiet
import Derived.Deep.MidRow
import Derived.Lib.Hide
import Derived.KernelRfl
import Derived.Carry
import Derived.WideMake
import Derived.RangeFuncOwn
import Derived.Maps.RangeRun
namespace Go.Mini
theorem idx_cons (b : Nat) (l : List Nat) (c i : Nat) : idxByte (b :: l) c i = Bool.rec (idxByte l c (i + 1)) (.ofNat i) (Nat.beq b c) := rfl
theorem u8_same {b c : Nat} (hb : b < 256) (hc : c < 256) (h : UInt8.ofNat b = (UInt8.ofNat c)) : b = c := by
  have := congrArg UInt8.toNat h
  simp only [UInt8.toNat_ofNat', Nat.reducePow] at this
  omega
theorem idx_eq (c : Nat) (hc : c < 256) : ∀ (l : List Nat), (∀ b ∈ l, b < 256) → ∀ i, idxByte l c i = if Lib.indexByte (l.map UInt8.ofNat) (UInt8.ofNat c) = -1 then -1 else Lib.indexByte (l.map UInt8.ofNat) (UInt8.ofNat c) + i := by
  intro l
  induction l with
  | nil => intro _ i; rfl
  | cons b l ih =>
    intro hl i
    rw [idx_cons, List.map_cons]
    have ihl := ih (fun x hx => hl x (by simp [hx])) (i + 1)
    simp only [Lib.indexByte]
    cases hb : Nat.beq b c with
    | true =>
      have e : b = c := Nat.eq_of_beq_eq_true hb
      subst e
      simp
    | false =>
      have hne : ¬ UInt8.ofNat b = (UInt8.ofNat c) := fun e => by
        have := u8_same (hl b (by simp)) hc e
        subst this
        rw [Nat.beq_refl] at hb; cases hb
      simp only [beq_iff_eq, hne, if_false]
      show idxByte l c (i + 1) = _
      rw [ihl]
      split
      · simp
      · rename_i h1
        have h0 : (-1 : Int) ≤ Lib.indexByte (l.map UInt8.ofNat) (UInt8.ofNat c) := by
          generalize l.map UInt8.ofNat = q
          induction q with
          | nil => simp [Lib.indexByte]
          | cons x q ihq => simp only [Lib.indexByte]; repeat' split
                            all_goals first | omega | simp_all
        rw [if_neg (by omega)]
        push_cast
        omega
end Go.Mini
/- strings.Join and stringslite.Index, laid by the shelf's own program. -/
namespace Go.Proofs
open Go.Shelf
def Tryz.lays156_ren : Go.Shelf.Ren := ⟨fun | 156 => 183 | 165 => 237 | 166 => 238 | 169 => 239 | 240 => 295 | 241 => 296 | 276 => 357 | 277 => 358 | n => n, fun | 31 => 23 | 9 => 9 | 3 => 3 | 4 => 4 | 0 => 0 | 20 => 20 | 72 => 297 | 76 => 254 | 70 => 295 | 37 => 56 | 75 => 253 | 127 => 347 | 164 => 406 | 5 => 5 | 80 => 95 | n => n, fun | n => n⟩
theorem Tryz.lays156 : Go.Proofs.Lays.n156 Tryz.prog Tryz.lays156_ren := {
  mixed := by kernel_rfl
  f156 := Tryz.func183.trans (congrArg some (by kernel_rfl))
  f165 := Tryz.func237.trans (congrArg some (by kernel_rfl))
  f166 := Tryz.func238.trans (congrArg some (by kernel_rfl))
  f169 := Tryz.func239.trans (congrArg some (by kernel_rfl))
  f240 := Tryz.func295.trans (congrArg some (by kernel_rfl))
  f241 := Tryz.func296.trans (congrArg some (by kernel_rfl))
  f276 := Tryz.func357.trans (congrArg some (by kernel_rfl))
  f277 := Tryz.func358.trans (congrArg some (by kernel_rfl))
  t0 := Tryz.underlying0
  a0 := Tryz.isAgg0
  z0 := Tryz.sizeOf0
  v0 := Tryz.zeroValue0
  t3 := Tryz.underlying3
  a3 := Tryz.isAgg3
  z3 := Tryz.sizeOf3
  v3 := Tryz.zeroValue3
  t4 := Tryz.underlying4
  a4 := Tryz.isAgg4
  z4 := Tryz.sizeOf4
  v4 := Tryz.zeroValue4
  t9 := Tryz.underlying9
  a9 := Tryz.isAgg9
  z9 := Tryz.sizeOf9
  v9 := Tryz.zeroValue9
  t20 := Tryz.underlying20
  a20 := Tryz.isAgg20
  z20 := Tryz.sizeOf20
  v20 := Tryz.zeroValue20
  t31 := Tryz.underlying23
  a31 := Tryz.isAgg23
  z31 := Tryz.sizeOf23
  v31 := Tryz.zeroValue23
  t37 := Tryz.underlying56
  a37 := Tryz.isAgg56
  z37 := Tryz.sizeOf56
  v37 := Tryz.zeroValue56
  t70 := Tryz.underlying295
  a70 := Tryz.isAgg295
  z70 := Tryz.sizeOf295
  v70 := Tryz.zeroValue295
  t72 := Tryz.underlying297
  a72 := Tryz.isAgg297
  z72 := Tryz.sizeOf297
  v72 := Tryz.zeroValue297
  t75 := Tryz.underlying253
  a75 := Tryz.isAgg253
  z75 := Tryz.sizeOf253
  v75 := Tryz.zeroValue253
  t76 := Tryz.underlying254
  a76 := Tryz.isAgg254
  z76 := Tryz.sizeOf254
  v76 := Tryz.zeroValue254
  t127 := Tryz.underlying347
  a127 := Tryz.isAgg347
  z127 := Tryz.sizeOf347
  v127 := Tryz.zeroValue347
  t164 := Tryz.underlying406
  a164 := Tryz.isAgg406
  z164 := Tryz.sizeOf406
  v164 := Tryz.zeroValue406 }
theorem Tryz.Builder_Extra_156 : Builder.Extra Tryz.prog Tryz.lays156_ren := {
  sizeBuilder := by kernel_rfl
  liesBuilder := by kernel_rfl
  t5 := Tryz.underlying5
  a5 := Tryz.isAgg5
  z5 := Tryz.sizeOf5
  v5 := Tryz.zeroValue5
  infoByte := by kernel_rfl
  cellsByte := by kernel_rfl
  sizeByte := by kernel_rfl
  neB5 := by decide }
open Go.RowKit in
theorem Tryz.strings_Join (bk o c : Nat) (xs : List ByteArray) (sep : ByteArray) (w : World) (hcells : ∀ (j : Nat) x, xs[j]? = some x → w.cell? ⟨bk, o + j, none⟩ = some (.string x)) (hbk : bk < w.heap.size) (hN : xs.length ≤ 140737488355328) (hcap : xs.length ≤ c) (hlen : (Lib.join (xs.map (·.data.toList)) sep.data.toList).length ≤ 140737488355328) :
    Calls Tryz.prog 183 #[.slice (some ⟨bk, o, none⟩) xs.length c, .string sep] w fun e w' => e = .returned (.string ⟨(Lib.join (xs.map (·.data.toList)) sep.data.toList).toArray⟩) ∧ Below w.heap.size w w' := Any.strings_Join Tryz.lays156 Tryz.Builder_Extra_156 bk o c xs sep w hcells hbk hN hcap hlen
def Tryz.laysM219_ren : Go.Shelf.Ren := ⟨fun | 219 => 233 | 217 => 281 | 225 => 282 | 224 => 283 | 267 => 284 | 266 => 350 | 314 => 351 | n => n, fun | 9 => 9 | 3 => 3 | 4 => 4 | 5 => 5 | 46 => 196 | 146 => 399 | 51 => 27 | n => n, fun | 1 => 3 | n => n⟩
theorem Tryz.laysM219 : Go.Proofs.LaysM.n219 Tryz.prog Tryz.laysM219_ren := {
  mixed := by kernel_rfl
  f217 := Tryz.func281.trans (congrArg some (by kernel_rfl))
  f219 := Tryz.func233.trans (congrArg some (by kernel_rfl))
  f224 := Tryz.func283.trans (congrArg some (by kernel_rfl))
  f225 := Tryz.func282.trans (congrArg some (by kernel_rfl))
  f266 := Tryz.func350.trans (congrArg some (by kernel_rfl))
  f267 := Tryz.func284.trans (congrArg some (by kernel_rfl))
  f314 := Tryz.func351.trans (congrArg some (by kernel_rfl))
  t3 := Tryz.underlying3
  a3 := Tryz.isAgg3
  z3 := Tryz.sizeOf3
  v3 := Tryz.zeroValue3
  t4 := Tryz.underlying4
  a4 := Tryz.isAgg4
  z4 := Tryz.sizeOf4
  v4 := Tryz.zeroValue4
  t5 := Tryz.underlying5
  a5 := Tryz.isAgg5
  z5 := Tryz.sizeOf5
  v5 := Tryz.zeroValue5
  t9 := Tryz.underlying9
  a9 := Tryz.isAgg9
  z9 := Tryz.sizeOf9
  v9 := Tryz.zeroValue9
  t46 := Tryz.underlying196
  a46 := Tryz.isAgg196
  z46 := Tryz.sizeOf196
  v46 := Tryz.zeroValue196
  t51 := Tryz.underlying27
  a51 := Tryz.isAgg27
  z51 := Tryz.sizeOf27
  v51 := Tryz.zeroValue27
  t146 := Tryz.underlying399
  a146 := Tryz.isAgg399
  z146 := Tryz.sizeOf399
  v146 := Tryz.zeroValue399
  g1 := by kernel_rfl
  i3 := by kernel_rfl
  i4 := by kernel_rfl
  i5 := by kernel_rfl
  i9 := by kernel_rfl
  i46 := by kernel_rfl
  i51 := by kernel_rfl
  i146 := by kernel_rfl
  m1 := by kernel_rfl
  s1_3 := fun w h => Go.Proofs.cell_of_shapedOpen_int (zero := #[.int .i64 0]) (t := 3) h (of_decide_eq_true (by kernel_rfl)) (by kernel_rfl) rfl (by kernel_rfl) (by kernel_rfl) Tryz.underlying3 }
end Go.Proofs
/- Loads of whole structs, worlds later than a world: what every walk of these proofs uses. -/
namespace Go.WW
open Go.RowKit
/-! ### A run of cells, read whole -/
def row? (w : World) (b o n : Nat) : Option (Array Value) :=
  match w.heap[b]? with
  | some (.cells c _ _) => if o + n ≤ c.size then some (c.extract o (o + n)) else none
  | _ => none
theorem row?_of_block {w w' : World} {b : Nat} (h : w'.heap[b]? = w.heap[b]?) (o n : Nat) : row? w' b o n = row? w b o n := by simp [row?, h]
theorem row?_size {w : World} {b o n : Nat} {cs : Array Value} (h : row? w b o n = some cs) : cs.size = n := by
  unfold row? at h
  split at h
  · split at h
    · cases h; simp; omega
    · cases h
  · cases h
theorem row?_cell {w : World} {b o n : Nat} {cs : Array Value} (h : row? w b o n = some cs) (j : Nat) (hj : j < n) : w.cell? ⟨b, o + j, none⟩ = cs[j]? := by
  unfold row? at h
  split at h
  · rename_i c t f hb
    split at h
    · cases h
      rw [cell_of_row w b (o + j) c t f hb]
      simp [Array.getElem?_extract]
      intro h1; omega
    · cases h
  · cases h
theorem row?_lt {w : World} {b o n : Nat} {cs : Array Value} (h : row? w b o n = some cs) : b < w.heap.size := by
  unfold row? at h
  split at h
  · rename_i hb; exact (Array.getElem?_eq_some_iff.1 hb).1
  · cases h
theorem row?_rangeAt {w : World} {b o n : Nat} {cs : Array Value} (h : row? w b o n = some cs) : w.rangeAt b o cs.toList := by
  intro j v hv
  have hs := row?_size h
  have hj : j < n := by
    have := (List.getElem?_eq_some_iff.1 hv).1; simp at this; omega
  rw [row?_cell h j hj]; simpa using hv
def structLoad (T : TypeId) (v : Value) : Sem Next := do pure (.value (← Instr.loadAt T v))
def rowOut (P : Program) (T : TypeId) (w : World) (b o : Nat) : Option (Array Value) → Result Next
  | some cs => .ok (.value (.agg cs)) w
  | none => (structLoad T (.pointer (some ⟨b, o, none⟩))).run P w
theorem rowOut_some (P : Program) (T : TypeId) (w : World) (b o : Nat) (cs : Array Value) : rowOut P T w b o (some cs) = .ok (.value (.agg cs)) w := rfl
theorem run_structLoad {P : Program} {T : TypeId} {d : TypeDesc} {n : Nat} (hu : P.underlying T = some d) (hd : d.isRow = true) (hi : (P.info? T).map (·.size) = some n) (w : World) (b o : Nat) :
    (structLoad T (.pointer (some ⟨b, o, none⟩))).run P w = rowOut P T w b o (row? w b o n) := by
  cases h : row? w b o n with
  | none => rfl
  | some cs =>
    rw [rowOut_some]
    have hs := row?_size h
    have := run_loadAt_mid (P := P) w b o T cs.toList d (row?_rangeAt h) hu hd (by rw [hi]; simp [hs])
    simp only [structLoad, Sem.run_bind, this, Result.andThen_ok, Sem.run_pure]
def subRow (cs : Array Value) (o n : Nat) : Option (Array Value) := if o + n ≤ cs.size then some (cs.extract o (o + n)) else none
theorem subRow_whole {cs : Array Value} {n : Nat} (hn : cs.size = n) : subRow cs 0 n = some cs := by subst hn; simp [subRow]
theorem row?_alloc_at {w : World} {cs : Array Value} {t : TypeId} {k o n : Nat} (hk : k = w.heap.size) : row? (w.alloc (.cells cs t)) k o n = subRow cs o n := by
  subst hk
  have : (w.alloc (.cells cs t)).heap[w.heap.size]? = some (.cells cs t) := by show (w.heap.push _)[w.heap.size]? = _; simp
  unfold row? subRow; rw [this]
theorem row?_alloc_past {w : World} {ob : Obj} {k o n : Nat} (hk : k < w.heap.size) : row? (w.alloc ob) k o n = row? w k o n :=
  row?_of_block (Below.heap_alloc w ob k hk) o n
theorem row?_drew (w : World) (k o n : Nat) : row? w.drew k o n = row? w k o n := rfl
/-! ### A struct stored whole -/
def structStore (T : TypeId) (p v : Value) : Sem Next := do Instr.storeAt T p v; pure .skip
def canPut (w : World) (b o n : Nat) : Bool :=
  match w.heap[b]? with
  | some (.cells c _ f) => decide (o + n ≤ c.size) && decide (f = (0, 0))
  | _ => false
def putRow (w : World) (b o : Nat) (cs : Array Value) : World := w.setCells b o cs.toList
def storeOut (P : Program) (T : TypeId) (w : World) (b o : Nat) (cs : Array Value) : Bool → Result Next
  | true => .ok .skip (putRow w b o cs)
  | false => (structStore T (.pointer (some ⟨b, o, none⟩)) (.agg cs)).run P w
theorem storeOut_true (P : Program) (T : TypeId) (w : World) (b o : Nat) (cs : Array Value) : storeOut P T w b o cs true = .ok .skip (putRow w b o cs) := rfl
theorem canPut_there {w : World} {b o n : Nat} (h : canPut w b o n = true) : w.there b o n := by
  unfold canPut at h
  split at h
  · rename_i c t f hb
    simp only [Bool.and_eq_true, decide_eq_true_eq] at h
    obtain ⟨h1, rfl⟩ := h
    intro j hj
    exact ⟨by rw [cell_of_row w b (o + j) c t _ hb]; simp; omega, frozen_of_row w b (o + j) c t hb⟩
  · cases h
def allOne (cs : Array Value) : Bool := cs.all (·.oneCell')
theorem run_structStore {P : Program} {T : TypeId} {n : Nat} (hi : (P.info? T).map (·.size) = some n) (w : World) (b o : Nat) (cs : Array Value) (hn : cs.size = n) (h1 : allOne cs = true) :
    (structStore T (.pointer (some ⟨b, o, none⟩)) (.agg cs)).run P w = storeOut P T w b o cs (canPut w b o n) := by
  cases h : canPut w b o n with
  | false => rfl
  | true =>
    rw [storeOut_true]
    have := run_storeAt_mid (P := P) w b o T cs (by rw [hn]; exact canPut_there h) (by rw [hi, hn]) h1
    simp only [structStore, Sem.run_bind, this, Result.andThen_ok, Sem.run_pure]
    rfl
theorem canPut_alloc_new {w : World} {cs : Array Value} {t : TypeId} {k o n : Nat} (hk : k = w.heap.size) (hn : o + n ≤ cs.size) : canPut (w.alloc (.cells cs t)) k o n = true := by
  subst hk
  have : (w.alloc (.cells cs t)).heap[w.heap.size]? = some (.cells cs t) := by show (w.heap.push _)[w.heap.size]? = _; simp
  unfold canPut; rw [this]; simp [hn]
theorem canPut_of_block {w w' : World} {b : Nat} (h : w'.heap[b]? = w.heap[b]?) (o n : Nat) : canPut w' b o n = canPut w b o n := by unfold canPut; rw [h]
theorem setCells_push (w : World) (t : TypeId) : ∀ (l : List Value) (o : Nat) (c : Array Value), (w.alloc (.cells c t)).setCells w.heap.size o l = w.alloc (.cells ((l.zipIdx o).foldl (fun c x => c.setIfInBounds x.2 x.1) c) t)
  | [], _, _ => rfl
  | v :: l, o, c => by
    rw [World.setCells, World.setCell_alloc_at _ _ _ _ _ rfl, setCells_push w t l (o + 1)]
    rfl
theorem foldl_set_all (pre : List Value) : ∀ (l m : List Value), l.length = m.length →
    ((m.zipIdx pre.length).foldl (fun (c : Array Value) x => c.setIfInBounds x.2 x.1) (pre ++ l).toArray) = (pre ++ m).toArray
  | [], [], _ => by simp
  | x :: l, y :: m, h => by
    have ih := foldl_set_all (pre ++ [y]) l m (by simpa using h)
    simp only [List.zipIdx_cons, List.foldl_cons]
    have e : (pre ++ x :: l).toArray.setIfInBounds pre.length y = ((pre ++ [y]) ++ l).toArray := by simp
    rw [e]
    simpa using ih
theorem putRow_alloc_whole {w : World} {c cs : Array Value} {t : TypeId} {k : Nat} (hk : k = w.heap.size) (hn : c.size = cs.size) : putRow (w.alloc (.cells c t)) k 0 cs = w.alloc (.cells cs t) := by
  subst hk
  unfold putRow
  rw [setCells_push]
  have := foldl_set_all [] c.toList cs.toList (by simpa using hn)
  simp only [List.length_nil, List.nil_append] at this
  have e : c.toList.toArray = c := by simp
  rw [e] at this
  rw [this]
attribute [go_sem] storeOut_true canPut_alloc_new putRow_alloc_whole
/-! ### Worlds later than a world -/
structure Later (W : World) where
  w : World
  b : Below W.heap.size W w
instance {W : World} : Nonempty (Later W) := ⟨⟨W, Below.refl _ _⟩⟩
section
variable {W : World} (x : Later W) (b o : Nat) (h : b < W.heap.size)
include h
theorem Later.cell : x.w.cell? ⟨b, o, none⟩ = W.cell? ⟨b, o, none⟩ := x.b.cell (p := ⟨b, o, none⟩) h
theorem Later.frozen : x.w.frozen? ⟨b, o, none⟩ = W.frozen? ⟨b, o, none⟩ := x.b.frozen (p := ⟨b, o, none⟩) h
theorem Later.row (n : Nat) : row? x.w b o n = row? W b o n := row?_of_block (x.b.block b h) o n
end
theorem wp_region_later {P : Program} {id : Nat} {Q : Exit → Act → World → Prop} {a : Act} {W w : World} {l : List Oper} (hW : Below W.heap.size W w) (hm : P.follows .mixedOrders = true) (hB : Region.lexB .any l.toArray = true)
    (h : wpQuiet P l.toArray (fun w' => ∃ x : Later W, w' = x.w) (fun a' => ∀ w', Below W.heap.size W w' → Q .normal a' w') l a) : (Code.region id l.toArray true).wp P Q a w := by
  refine wp_region_quiet (C := fun w' => ∃ x : Later W, w' = x.w) hm hB ⟨⟨w.drew, hW.drew⟩, rfl⟩ ?_
  have : (fun a' => ∀ w', (∃ x : Later W, w' = x.w) → Q .normal a' w') = (fun a' => ∀ w', Below W.heap.size W w' → Q .normal a' w') := by
    funext a'; apply propext
    exact ⟨fun h w' hw' => h w' ⟨⟨w', hw'⟩, rfl⟩, fun h w' ⟨x, hx⟩ => hx ▸ h _ x.b⟩
  rw [this]
  simpa using h
theorem Calls.later_of {P : Program} {f : FuncId} {args : Array Value} {W : World} {x : Later W} {v : Value}
    (h : Calls P f args x.w fun e w' => e = .returned v ∧ Below x.w.heap.size x.w w') : Calls P f args x.w fun e w'' => e = .returned v ∧ ∃ y : Later W, w'' = y.w :=
  h.mono fun _ w' ⟨he, hb⟩ => ⟨he, ⟨w', x.b.trans (hb.mono x.b.size)⟩, rfl⟩
theorem bcell {W w1 : World} (hb : Below W.heap.size W w1) : (∀ b o, b < W.heap.size → w1.cell? ⟨b, o, none⟩ = W.cell? ⟨b, o, none⟩) ∧ (∀ b o, b < W.heap.size → w1.frozen? ⟨b, o, none⟩ = W.frozen? ⟨b, o, none⟩) ∧
    (∀ b o n, b < W.heap.size → row? w1 b o n = row? W b o n) :=
  ⟨fun b o h => hb.cell (p := ⟨b, o, none⟩) h, fun b o h => hb.frozen (p := ⟨b, o, none⟩) h, fun b o n h => row?_of_block (hb.block b h) o n⟩
attribute [go_sem] rowOut_some subRow_whole row?_alloc_at row?_alloc_past row?_drew Later.cell Later.frozen Later.row
end Go.WW
/- A region that draws its order, walked once in the order of the text. -/
namespace Go.WW
open Go.RowKit
/-! ### A region that draws its order, walked once in the order of the text: operations that only look may stand anywhere; those that act are in one forced order. -/
section
variable {P : Program} {ops : Array Oper} {S : World → Prop} {st : Oper → Bool} {Q : Act → World → Prop}
abbrev never : Exit → Act → World → Prop := fun _ _ _ => False
def wpText (P : Program) (ops : Array Oper) (st : Oper → Bool) (S : World → Prop) (Q : Act → World → Prop) : List Oper → Act → World → Prop
  | [], a, w => Q a w
  | o :: rest, a, w =>
    if Region.wanted o (yielded ops a.tmps) then
      if st o then ∃ v, (∀ w', S w' → (execOp a.eval o).run P w' = .ok (.value v) w') ∧ wpText P ops st S Q rest (a.put o.dst v) w
      else o.wp P a w (fun a' w' => S w' ∧ wpText P ops st S Q rest a' w') never
    else wpText P ops st S Q rest (a.put o.dst undef) w
theorem wp_mono_Q {o : Oper} {a : Act} {w : World} {K : Act → World → Prop} {Q' : Exit → Act → World → Prop} (h : o.wp P a w K never) : o.wp P a w K Q' := by
  unfold Oper.wp at *
  generalize (execOp a.eval o).run P w = r at *
  cases r with
  | ok n w' =>
    cases n <;> simp only [Oper.upon] at h ⊢ <;>
      first
        | exact h
        | exact Calls.mono h (fun e w'' he => by cases e <;> first | exact he | exact he.elim | (obtain ⟨_, _, he⟩ := he; exact he.elim))
  | halt x w' => cases x <;> simp only [Oper.upon, never] at h ⊢
theorem wp_form {o : Oper} {a : Act} {w : World} {K : Act → World → Prop} (h : o.wp P a w K never) :
    o.wp P a w (fun a' w' => (∃ u ds, a' = ({ a with defers := ds } : Act).put o.dst u) ∧ K a' w') never := by
  unfold Oper.wp at *
  generalize (execOp a.eval o).run P w = r at *
  cases r with
  | ok n w' =>
    cases n <;> simp only [Oper.upon] at h ⊢ <;>
      first
        | exact ⟨⟨_, a.defers, rfl⟩, h⟩
        | exact ⟨⟨_, _, rfl⟩, h⟩
        | exact Calls.mono h (fun e w'' he => by cases e <;> first | exact ⟨⟨_, a.defers, rfl⟩, he⟩ | exact he)
        | exact Rows.mono h (fun _ _ he => ⟨⟨_, a.defers, rfl⟩, he⟩)
        | exact h
  | halt x w' => cases x <;> simp only [Oper.upon, never] at h ⊢
theorem wp_exists {o : Oper} {a : Act} {w : World} {K : Act → World → Prop} (h : o.wp P a w K never) : ∃ a' w', K a' w' := by
  unfold Oper.wp at *
  generalize (execOp a.eval o).run P w = r at *
  cases r with
  | ok n w' =>
    cases n <;> simp only [Oper.upon] at h <;>
      first
        | exact ⟨_, _, h⟩
        | (obtain ⟨e, w'', fr, hR, _⟩ := h []
           cases e with
           | returned v => exact ⟨_, _, hR⟩
           | panicked c => exact hR.elim
           | outgrown => obtain ⟨_, _, hR⟩ := hR; exact hR.elim)
        | (obtain ⟨v, w'', hR, _⟩ := h default []; exact ⟨_, _, hR⟩)
        | exact h.elim
  | halt x w' => cases x <;> simp only [Oper.upon, never] at h
theorem wp_put {o : Oper} {a : Act} {w : World} {K : Act → World → Prop} {dst : Option Tmp} {v : Value} (hs : ∀ cs b, o.op ≠ .select cs b)
    (h1 : ∀ d, dst = some d → d ∉ o.looksAt ops) (h2 : ∀ d, dst = some d → o.dst ≠ some d) :
    o.wp P (a.put dst v) w K never ↔ o.wp P a w (fun a' w' => K (a'.put dst v) w') never := by
  unfold Oper.wp
  rw [execOp_put o hs a dst v h1]
  generalize (execOp a.eval o).run P w = r
  have hc : ∀ (b : Act) u, (b.put dst v).put o.dst u = (b.put o.dst u).put dst v := fun b u => Act.put_comm b v u h2
  have hd : ∀ d, ({ a.put dst v with defers := d :: (a.put dst v).defers } : Act) = ({ a with defers := d :: a.defers } : Act).put dst v := fun d => Act.put_defers a dst v d
  cases r with
  | ok n w' =>
    cases n <;> simp only [Oper.upon, hc, hd]
  | halt x w' => cases x <;> simp only [Oper.upon]
theorem text_cons (o : Oper) (rest : List Oper) (a : Act) (w : World) : wpText P ops st S Q (o :: rest) a w =
    (if Region.wanted o (yielded ops a.tmps) then
      if st o then ∃ v, (∀ w', S w' → (execOp a.eval o).run P w' = .ok (.value v) w') ∧ wpText P ops st S Q rest (a.put o.dst v) w
      else o.wp P a w (fun a' w' => S w' ∧ wpText P ops st S Q rest a' w') never
    else wpText P ops st S Q rest (a.put o.dst undef) w) := rfl
theorem text_mono {l : List Oper} {Q' : Act → World → Prop} (h : ∀ a w, Q a w → Q' a w) : ∀ {a w}, wpText P ops st S Q l a w → wpText P ops st S Q' l a w := by
  induction l with
  | nil => exact fun hh => h _ _ hh
  | cons o l ih =>
    intro a w hh
    rw [text_cons] at *
    split
    · rename_i hw
      simp only [hw, if_true] at hh
      split
      · rename_i hs
        simp only [hs, if_true] at hh
        obtain ⟨v, h1, h2⟩ := hh
        exact ⟨v, h1, ih h2⟩
      · rename_i hs
        simp only [hs] at hh
        exact Oper.wp_mono (fun a' w' ⟨x, y⟩ => ⟨x, ih y⟩) hh
    · rename_i hw
      simp only [hw] at hh
      exact ih hh
theorem cons_mono {o : Oper} {M M' : List Oper} {a : Act} {w : World} (hS : S w) (h : ∀ a' w', S w' → wpText P ops st S Q M a' w' → wpText P ops st S Q M' a' w')
    (hh : wpText P ops st S Q (o :: M) a w) : wpText P ops st S Q (o :: M') a w := by
  rw [text_cons] at *
  split
  · rename_i hw
    simp only [hw, if_true] at hh
    split
    · rename_i hs
      simp only [hs, if_true] at hh
      obtain ⟨v, h1, h2⟩ := hh
      exact ⟨v, h1, h _ _ hS h2⟩
    · rename_i hs
      simp only [hs] at hh
      exact Oper.wp_mono (fun a' w' ⟨x, y⟩ => ⟨x, h _ _ x y⟩) hh
  · rename_i hw
    simp only [hw] at hh
    exact h _ _ hS hh
theorem text_swap {x o : Oper} {L : List Oper} {a : Act} {w : World} (hx : ∀ cs b, x.op ≠ .select cs b) (ho : ∀ cs b, o.op ≠ .select cs b)
    (hap : x.apart ops o = true) (hst : st x = true ∨ st o = true) (h : wpText P ops st S Q (x :: o :: L) a w) : wpText P ops st S Q (o :: x :: L) a w := by
  obtain ⟨h1, h2, h3⟩ := Oper.apart_spec hap
  have h2' : ∀ d, o.dst = some d → x.dst ≠ some d := fun d hd hxd => h2 d hxd hd
  have wo : ∀ (b : Act) v, Region.wanted o (yielded ops (b.put x.dst v).tmps) = Region.wanted o (yielded ops b.tmps) := fun b v => wanted_put o b x.dst v h1
  have wx : ∀ (b : Act) v, Region.wanted x (yielded ops (b.put o.dst v).tmps) = Region.wanted x (yielded ops b.tmps) := fun b v => wanted_put x b o.dst v h3
  have eo : ∀ (b : Act) v, execOp (b.put x.dst v).eval o = execOp b.eval o := fun b v => execOp_put o ho b x.dst v h1
  have ex : ∀ (b : Act) v, execOp (b.put o.dst v).eval x = execOp b.eval x := fun b v => execOp_put x hx b o.dst v h3
  have hc : ∀ (b : Act) v u, (b.put x.dst v).put o.dst u = (b.put o.dst u).put x.dst v := fun b v u => Act.put_comm b v u h2
  rw [text_cons] at h ⊢
  by_cases hwx : Region.wanted x (yielded ops a.tmps) = true
  · rw [if_pos hwx] at h
    by_cases hsx : st x = true
    · rw [if_pos hsx] at h
      obtain ⟨v, hv, h⟩ := h
      rw [text_cons, wo, eo] at h
      by_cases hwo : Region.wanted o (yielded ops a.tmps) = true
      · rw [if_pos hwo] at h ⊢
        by_cases hso : st o = true
        · rw [if_pos hso] at h ⊢
          obtain ⟨u, hu, h⟩ := h
          refine ⟨u, hu, ?_⟩
          rw [text_cons, wx, if_pos hwx, if_pos hsx, ex]
          exact ⟨v, hv, by rw [← hc]; exact h⟩
        · rw [if_neg hso] at h ⊢
          have h' := wp_form ((wp_put ho h1 h2).1 h)
          refine Oper.wp_mono ?_ h'
          rintro a' w' ⟨⟨u, ds, rfl⟩, hS', h⟩
          refine ⟨hS', ?_⟩
          rw [text_cons, wx, show Region.wanted x (yielded ops ({ a with defers := ds } : Act).tmps) = true from hwx, if_pos rfl, if_pos hsx, ex]
          exact ⟨v, hv, h⟩
      · rw [if_neg hwo] at h ⊢
        rw [text_cons, wx, if_pos hwx, if_pos hsx, ex]
        exact ⟨v, hv, by rw [← hc]; exact h⟩
    · have hso : st o = true := hst.resolve_left hsx
      rw [if_neg hsx] at h
      have h' := wp_form h
      by_cases hwo : Region.wanted o (yielded ops a.tmps) = true
      · rw [if_pos hwo, if_pos hso]
        have key : ∀ a' w', ((∃ u ds, a' = ({ a with defers := ds } : Act).put x.dst u) ∧ S w' ∧ wpText P ops st S Q (o :: L) a' w') →
            ∃ v, (∀ w', S w' → (execOp a.eval o).run P w' = .ok (.value v) w') ∧ S w' ∧ wpText P ops st S Q L (a'.put o.dst v) w' := by
          rintro a' w' ⟨⟨u, ds, rfl⟩, hS', hh⟩
          rw [text_cons, wo, show Region.wanted o (yielded ops ({ a with defers := ds } : Act).tmps) = true from hwo, if_pos rfl, if_pos hso, eo] at hh
          obtain ⟨v, hv, hh⟩ := hh
          exact ⟨v, hv, hS', hh⟩
        obtain ⟨a1, w1, h1'⟩ := wp_exists h'
        obtain ⟨v, hv, _⟩ := key _ _ h1'
        refine ⟨v, hv, ?_⟩
        rw [text_cons, wx, if_pos hwx, if_neg hsx, wp_put hx h3 h2']
        refine Oper.wp_mono ?_ h'
        intro a' w' hh
        obtain ⟨v', hv', hS', hh⟩ := key _ _ hh
        have e : v' = v := by
          have := (hv' _ hS').symm.trans (hv _ hS')
          simpa using this
        subst e
        exact ⟨hS', hh⟩
      · rw [if_neg hwo, text_cons, wx, if_pos hwx, if_neg hsx, wp_put hx h3 h2']
        refine Oper.wp_mono ?_ h'
        rintro a' w' ⟨⟨u, ds, rfl⟩, hS', hh⟩
        rw [text_cons, wo, show Region.wanted o (yielded ops ({ a with defers := ds } : Act).tmps) = false from by simpa using hwo, if_neg (by simp)] at hh
        exact ⟨hS', hh⟩
  · rw [if_neg hwx] at h
    rw [text_cons, wo, eo] at h
    by_cases hwo : Region.wanted o (yielded ops a.tmps) = true
    · rw [if_pos hwo] at h ⊢
      by_cases hso : st o = true
      · rw [if_pos hso] at h ⊢
        obtain ⟨u, hu, h⟩ := h
        refine ⟨u, hu, ?_⟩
        rw [text_cons, wx, if_neg hwx, ← hc]
        exact h
      · rw [if_neg hso] at h ⊢
        have h' := wp_form ((wp_put ho h1 h2).1 h)
        refine Oper.wp_mono ?_ h'
        rintro a' w' ⟨⟨u, ds, rfl⟩, hS', h⟩
        refine ⟨hS', ?_⟩
        rw [text_cons, wx, show Region.wanted x (yielded ops ({ a with defers := ds } : Act).tmps) = false from by simpa using hwx, if_neg (by simp)]
        exact h
    · rw [if_neg hwo] at h ⊢
      rw [text_cons, wx, if_neg hwx, ← hc]
      exact h
theorem text_front {o : Oper} {L2 : List Oper} (ho : ∀ cs b, o.op ≠ .select cs b) : ∀ (L1 : List Oper), (∀ x ∈ L1, (∀ cs b, x.op ≠ .select cs b) ∧ x.apart ops o = true ∧ (st x = true ∨ st o = true)) →
    ∀ (a : Act) (w : World), S w → wpText P ops st S Q (L1 ++ o :: L2) a w → wpText P ops st S Q (o :: (L1 ++ L2)) a w
  | [], _, _, _, _, h => h
  | x :: L1, hall, a, w, hS, h => by
    have hx := hall x (by simp)
    refine text_swap hx.1 ho hx.2.1 hx.2.2 ?_
    exact cons_mono hS (fun a' w' hS' hh => text_front ho L1 (fun y hy => hall y (by simp [hy])) a' w' hS' hh) h
def effPreds (st : Oper → Bool) (ops : Array Oper) : Array (List Nat) :=
  ops.foldl (fun acc o => acc.push (((o.after.toList.filter (Region.binds .any ·)).flatMap fun e => (if ((ops[e.on]?).map st).getD true then [] else [e.on]) ++ acc.getD e.on []).eraseDups)) #[]
def textB (st : Oper → Bool) (ops : Array Oper) : Bool :=
  let m := effPreds st ops
  Region.noSelect ops && (List.range ops.size).all fun j => match ops[j]? with
    | none => true
    | some oj =>
      oj.after.toList.all (fun e => !Region.binds .any e || decide (e.on < j)) &&
      (m.getD j []).all (fun i => oj.after.toList.any fun e => Region.binds .any e && (e.on == i || (m.getD e.on []).contains i)) &&
      (List.range j).all fun i => match ops[i]? with
        | none => true
        | some oi => oj.after.toList.any (fun e => Region.binds .any e && e.on == i) || (oi.apart ops oj && (st oi || st oj || (m.getD j []).contains i))
structure TextOk (st : Oper → Bool) (ops : Array Oper) (m : Array (List Nat)) : Prop where
  sel : Region.noSelect ops = true
  back : ∀ j oj, ops[j]? = some oj → ∀ e ∈ oj.after, Region.binds .any e = true → e.on < j
  pred : ∀ j oj, ops[j]? = some oj → ∀ i ∈ m.getD j [], ∃ e ∈ oj.after, Region.binds .any e = true ∧ (e.on = i ∨ i ∈ m.getD e.on [])
  pair : ∀ j oj, ops[j]? = some oj → ∀ i, i < j → ∀ oi, ops[i]? = some oi → (∃ e ∈ oj.after, Region.binds .any e = true ∧ e.on = i) ∨ (oi.apart ops oj = true ∧ (st oi = true ∨ st oj = true ∨ i ∈ m.getD j []))
theorem textB_ok (h : textB st ops = true) : TextOk st ops (effPreds st ops) := by
  unfold textB at h
  simp only [Bool.and_eq_true, List.all_eq_true, List.mem_range] at h
  obtain ⟨hs, h⟩ := h
  have lt : ∀ {j : Nat} {oj : Oper}, ops[j]? = some oj → j < ops.size := fun hj => (Array.getElem?_eq_some_iff.1 hj).1
  refine ⟨hs, fun j oj hj => ?_, fun j oj hj => ?_, fun j oj hj => ?_⟩
  all_goals
    have hh := h j (lt hj)
    simp only [hj, Bool.and_eq_true, List.all_eq_true, List.mem_range] at hh
    obtain ⟨⟨h1, h2⟩, h3⟩ := hh
  · intro e he hb
    have := h1 e (by simpa using he)
    simpa [hb] using this
  · intro i hi
    have := h2 i hi
    simp only [List.any_eq_true, Bool.and_eq_true, Bool.or_eq_true, beq_iff_eq, List.contains_iff_mem] at this
    obtain ⟨e, he, hb, hor⟩ := this
    exact ⟨e, by simpa using he, hb, hor⟩
  · intro i hi oi ho
    have := h3 i hi
    simp only [ho, Bool.or_eq_true, List.any_eq_true, Bool.and_eq_true, beq_iff_eq, List.contains_iff_mem] at this
    rcases this with ⟨e, he, hb, hor⟩ | ⟨ha, hor⟩
    · exact .inl ⟨e, by simpa using he, hb, hor⟩
    · exact .inr ⟨ha, by rcases hor with (h | h) | h; exact .inl h; exact .inr (.inl h); exact .inr (.inr h)⟩
theorem preds_listed {m : Array (List Nat)} (hok : TextOk st ops m) {listed : Array Bool}
    (hdown : ∀ k o, ops[k]? = some o → listed.getD k false = true → ∀ e ∈ o.after, Region.binds .any e = true → listed.getD e.on false = true) :
    ∀ (j : Nat) (oj : Oper), ops[j]? = some oj → (∀ e ∈ oj.after, Region.binds .any e = true → listed.getD e.on false = true) → ∀ i ∈ m.getD j [], listed.getD i false = true := by
  intro j
  induction j using Nat.strongRecOn with
  | _ j ih =>
    intro oj hj hall i hi
    obtain ⟨e, he, hb, hor⟩ := hok.pred j oj hj i hi
    rcases hor with rfl | hor
    · exact hall e he hb
    · have hlt := hok.back j oj hj e he hb
      have hjs : j < ops.size := (Array.getElem?_eq_some_iff.1 hj).1
      have hoe : ops[e.on]? = some (ops[e.on]'(by omega)) := by simp
      exact ih e.on hlt _ hoe (hdown _ _ hoe (hall e he hb)) i hor
theorem getD_true_of_false {listed : Array Bool} {i : Nat} (h : listed.getD i false = true) : listed.getD i true = true := by
  rcases Nat.lt_or_ge i listed.size with h' | h'
  · simp [h'] at h ⊢; exact h
  · simp [Array.getElem?_eq_none h'] at h
theorem text_any {m : Array (List Nat)} (hok : TextOk st ops m) {Q' : Exit → Act → World → Prop} (hQ : ∀ a w, Q a w → Q' .normal a w) :
    ∀ (n : Nat) (L : List Nat) (listed : Array Bool) (a : Act) (w : World), L.length = n → L.Pairwise (· < ·) → listed.size = ops.size → (∀ j, j ∈ L ↔ j < ops.size ∧ listed.getD j true = false) →
      (∀ k o, ops[k]? = some o → listed.getD k false = true → ∀ e ∈ o.after, Region.binds .any e = true → listed.getD e.on false = true) →
      S w → wpText P ops st S Q (L.filterMap (ops[·]?)) a w → wpAny P .any ops Q' n listed a w := by
  intro n
  induction n with
  | zero =>
    intro L listed a w hn _ hsz hL _ _ h
    have : L = [] := List.eq_nil_of_length_eq_zero hn
    subst this
    refine ⟨?_, hQ _ _ h⟩
    cases hr : Region.ready .any ops listed with
    | nil => rfl
    | cons i r =>
      have hi : i ∈ Region.ready .any ops listed := by rw [hr]; simp
      obtain ⟨h0, o, ho, _⟩ := mem_ready.1 hi
      have := (hL i).2 ⟨(Array.getElem?_eq_some_iff.1 ho).1, h0⟩
      cases this
  | succ n ih =>
    intro L listed a w hn hsort hsz hL hdown hS h
    refine ⟨fun hr => ?_, fun i hi => ?_⟩
    · exfalso
      cases L with
      | nil => simp at hn
      | cons j L =>
        obtain ⟨hj, hjl⟩ := (hL j).1 (by simp)
        have hoj : ops[j]? = some ops[j] := by simp [hj]
        have : j ∈ Region.ready .any ops listed := by
          refine mem_ready.2 ⟨hjl, _, hoj, fun e he hb => ?_⟩
          have hlt := hok.back j _ hoj e he hb
          have hnot : e.on ∉ j :: L := by
            intro hmem
            rcases List.mem_cons.1 hmem with h1 | h1
            · omega
            · have := (List.pairwise_cons.1 hsort).1 _ h1; omega
          have h2 : listed.getD e.on true ≠ false := fun hf => hnot ((hL e.on).2 ⟨by omega, hf⟩)
          have hes : e.on < listed.size := by omega
          simp [hes] at h2 ⊢; exact h2
        rw [hr] at this; cases this
    · obtain ⟨h0, o, ho, hall⟩ := mem_ready.1 hi
      have his : i < ops.size := (Array.getElem?_eq_some_iff.1 ho).1
      have hiL : i ∈ L := (hL i).2 ⟨his, h0⟩
      obtain ⟨L1, L2, rfl⟩ := List.append_of_mem hiL
      have hsort' := List.pairwise_append.1 hsort
      have hlt1 : ∀ x ∈ L1, x < i := fun x hx => hsort'.2.2 x hx i (by simp)
      have hgt2 : ∀ x ∈ L2, i < x := fun x hx => (List.pairwise_cons.1 hsort'.2.1).1 x hx
      rw [List.filterMap_append, List.filterMap_cons_some ho] at h
      have hfront := text_front (P := P) (ops := ops) (S := S) (st := st) (Q := Q) (Region.noSelect_spec hok.sel i o · · ho) (L1.filterMap (ops[·]?)) (fun x hx => by
        obtain ⟨k, hk, hox⟩ := List.mem_filterMap.1 hx
        have hkl := ((hL k).1 (by simp [hk])).2
        have hnl : ¬ listed.getD k false = true := fun hf => by rw [getD_true_of_false hf] at hkl; cases hkl
        refine ⟨(Region.noSelect_spec hok.sel k x · · hox), ?_⟩
        rcases hok.pair i o ho k (hlt1 k hk) x hox with ⟨e, he, hb, rfl⟩ | ⟨hap, hor⟩
        · exact absurd (hall e he hb) hnl
        · refine ⟨hap, ?_⟩
          rcases hor with h1 | h1 | h1
          · exact .inl h1
          · exact .inr h1
          · exact absurd (preds_listed hok hdown i o ho hall k h1) hnl) a w hS h
      have hrest : ∀ a' w', S w' → wpText P ops st S Q (L1.filterMap (ops[·]?) ++ L2.filterMap (ops[·]?)) a' w' → wpAny P .any ops Q' n (listed.setIfInBounds i true) a' w' := by
        intro a' w' hS' hh
        rw [← List.filterMap_append] at hh
        refine ih (L1 ++ L2) (listed.setIfInBounds i true) a' w' ?_ ?_ (by simpa using hsz) ?_ ?_ hS' hh
        · simp at hn ⊢; omega
        · exact List.pairwise_append.2 ⟨hsort'.1, (List.pairwise_cons.1 hsort'.2.1).2, fun x hx y hy => hsort'.2.2 x hx y (by simp [hy])⟩
        · intro j
          by_cases hji : j = i
          · subst hji
            constructor
            · intro hm
              exfalso
              rcases List.mem_append.1 hm with h1 | h1
              · have := hlt1 _ h1; omega
              · have := hgt2 _ h1; omega
            · rintro ⟨_, hf⟩
              have : j < listed.size := by omega
              simp [this] at hf
          · rw [getD_set_ne true (Ne.symm hji), ← hL j]
            simp [hji]
        · intro k ok hk hkl e he hb
          by_cases hki : k = i
          · subst hki
            rw [ho] at hk; cases hk
            exact getD_set_true (hall e he hb)
          · rw [getD_set_ne false (Ne.symm hki)] at hkl
            exact getD_set_true (hdown k ok hk hkl e he hb)
      unfold wpOp
      simp only [ho]
      rw [text_cons] at hfront
      split
      · rename_i hw
        rw [if_pos hw] at hfront
        refine .inl ?_
        by_cases hs : st o = true
        · rw [if_pos hs] at hfront
          obtain ⟨v, hv, hh⟩ := hfront
          unfold Oper.wp
          rw [hv w hS]
          exact hrest _ _ hS hh
        · rw [if_neg hs] at hfront
          exact wp_mono_Q (Oper.wp_mono (fun a' w' hh => hrest a' w' hh.1 hh.2) hfront)
      · rename_i hw
        rw [if_neg hw] at hfront
        exact hrest _ _ hS hfront
theorem wp_region_text {id : Nat} {Q' : Exit → Act → World → Prop} {a : Act} {w : World} {l : List Oper} (S : World → Prop) (st : Oper → Bool) (hm : P.follows .mixedOrders = true) (hB : textB st l.toArray = true)
    (hS : S w.drew) (h : wpText P l.toArray st S (fun a' w' => Q' .normal a' w') l a w.drew) : (Code.region id l.toArray true).wp P Q' a w := by
  refine wp_region_any hm ?_
  have hfm : (List.range l.toArray.size).filterMap (l.toArray[·]?) = l := by
    apply List.ext_getElem?
    intro i
    have : ∀ n, (List.range n).filterMap (fun i => l.toArray[i]?) = l.take n := by
      intro n
      induction n with
      | zero => simp
      | succ n ih =>
        rw [List.range_succ, List.filterMap_append, ih]
        by_cases hn : n < l.length
        · rw [List.take_succ_eq_append_getElem hn]; simp [hn]
        · simp [hn, List.take_of_length_le (show l.length ≤ n by omega), List.take_of_length_le (show l.length ≤ n + 1 by omega)]
    rw [this]; simp
  have := text_any (P := P) (S := S) (Q := fun a' w' => Q' .normal a' w') (textB_ok hB) (Q' := Q') (fun _ _ h => h) l.toArray.size (List.range l.toArray.size) (Array.replicate l.toArray.size false) a w.drew
    (by simp) List.pairwise_lt_range (by simp) (by intro j; simp; intro h; simp [h]) (by intro k o hk hkl; exfalso; rw [Array.getD_eq_getD_getElem?, Array.getElem?_replicate] at hkl; split at hkl <;> simp at hkl) hS (by rw [hfm]; exact h)
  exact this
/-! ### The walk's steps -/
def looks (o : Oper) : Bool :=
  match o.op with
  | .move _ | .assign _ | .pick .. | .load .. | .binOp .. | .unOp .. | .makeInterface .. | .makeFunc .. | .slice .. | .fieldAddr .. | .field .. | .indexAddr .. | .index .. | .lookup .. | .extract .. | .build .. | .convert .. => true
  | .call { callee := .builtin b, .. } => match b with | .len | .cap | .min | .max => true | _ => false
  | _ => false
theorem run_value_only (s : Sem Value) (w : World) : (∃ v w', ((do pure (.value (← s)) : Sem Next)).run P w = .ok (.value v) w') ∨ ∃ h w', ((do pure (.value (← s)) : Sem Next)).run P w = .halt h w' := by
  rw [Sem.run_bind]
  cases s.run P w with
  | ok v w' => exact .inl ⟨v, w', by simp⟩
  | halt h w' => exact .inr ⟨h, w', by simp⟩
theorem looks_value {o : Oper} (h : looks o = true) (ρ : Operand → Value) (w : World) : (∃ v w', (execOp ρ o).run P w = .ok (.value v) w') ∨ ∃ h w', (execOp ρ o).run P w = .halt h w' := by
  obtain ⟨dst, op, type, pos, after, guard⟩ := o
  cases op <;> simp only [looks, Bool.false_eq_true] at h <;> simp only [execOp]
  case move x => exact .inl ⟨_, w, rfl⟩
  case assign x => exact .inl ⟨_, w, rfl⟩
  case pick c a b =>
    rw [Sem.run_bind]
    cases (asBool (ρ c)).run P w with
    | ok v w' => exact .inl ⟨_, w', by simp; rfl⟩
    | halt h w' => exact .inr ⟨h, w', by simp⟩
  case call c =>
    obtain ⟨callee, args, ats⟩ := c
    cases callee with
    | value f => simp at h
    | invoke r m => simp at h
    | builtin b => cases b <;> simp at h <;> exact run_value_only _ w
  all_goals exact run_value_only _ w
theorem text_nil {a : Act} {w : World} (h : Q a w) : wpText P ops st S Q [] a w := h
theorem text_skip {o : Oper} {rest : List Oper} {a : Act} {w : World} (hw : Region.wanted o (yielded ops a.tmps) = false) (h : wpText P ops st S Q rest (a.put o.dst undef) w) : wpText P ops st S Q (o :: rest) a w := by
  rw [text_cons, if_neg (by simp [hw])]; exact h
theorem text_look {o : Oper} {rest : List Oper} {a : Act} {w : World} (hw : Region.wanted o (yielded ops a.tmps) = true) (hs : looks o = true)
    (h : ∀ K : Act → Prop, (∀ a', wpText P ops looks S Q rest a' w → K a') → o.quiet P a S K) : wpText P ops looks S Q (o :: rest) a w := by
  rw [text_cons, if_pos hw, if_pos hs]
  obtain ⟨v, hv, hh⟩ := h _ (fun _ x => x)
  refine ⟨v, fun w' hw' => ?_, hh⟩
  have := hv w' hw'
  unfold Oper.quietAt at this
  rcases looks_value (P := P) hs a.eval w' with ⟨u, w'', e⟩ | ⟨x, w'', e⟩
  · rw [e] at this ⊢
    obtain ⟨rfl, rfl⟩ := this
    rfl
  · rw [e] at this
    exact this.elim
theorem text_act {o : Oper} {rest : List Oper} {a : Act} {w : World} (hw : Region.wanted o (yielded ops a.tmps) = true) (hs : looks o = false)
    (h : ∀ K : Act → World → Prop, (∀ a' w', S w' → wpText P ops looks S Q rest a' w' → K a' w') → o.wp P a w K never) : wpText P ops looks S Q (o :: rest) a w := by
  rw [text_cons, if_pos hw, if_neg (by simp [hs])]
  exact h _ (fun _ _ x y => ⟨x, y⟩)
end
abbrev since (w : World) : World → Prop := fun w' => ∃ x : Later w, w' = x.w
theorem wp_region_since {P : Program} {id : Nat} {Q' : Exit → Act → World → Prop} {a : Act} {W w : World} {l : List Oper} (hW : Below W.heap.size W w) (hm : P.follows .mixedOrders = true) (hB : textB looks l.toArray = true)
    (h : ∀ w1, Below W.heap.size W w1 → wpText P l.toArray looks (since W) (fun a' w' => Q' .normal a' w') l a w1) : (Code.region id l.toArray true).wp P Q' a w :=
  wp_region_text (since W) looks hm hB ⟨⟨w.drew, hW.drew⟩, rfl⟩ (h _ hW.drew)
theorem since_of {W w : World} (h : Below W.heap.size W w) : since W w := ⟨⟨w, h⟩, rfl⟩
theorem below_step {W w w' : World} (h : Below W.heap.size W w) (h' : Below w.heap.size w w') : Below W.heap.size W w' := h.trans (h'.mono h.size)
theorem below_new {W w : World} (h : Below W.heap.size W w) (o : Obj) : Below W.heap.size W (w.alloc o) := h.alloc h.size o
end Go.WW
/- The plain data of the watchword proofs: Lean structures for the program's types, and the cells in which a value of each lies. Printed by wip/src/gendata.py. -/
namespace Go.WW
structure Sl where
  a : Option Addr
  cap : Nat
structure Prin where
  parts : List ByteArray
  realm : ByteArray
structure Key where
  profile : Int
  version : Int
  bytes : List UInt8
structure KeySet where
  version : Int
  keys : List Key
  salt : ByteArray
  iterations : Int
  created : Int
structure Entry where
  name : Prin
  aliases : List Prin
  attrs : Int
  master : Int
  keys : List KeySet
  policy : ByteArray
  expires : Int
  pwExpires : Int
  maxLife : Int
  maxRenew : Int
  fails : Int
  lastFail : Int
  lastSuccess : Int
  targets : List Prin
  delegates : List Prin
  history : List (List UInt8)
structure Policy where
  name : ByteArray
  length : Int
  classes : Int
  distinct : Int
  history : Int
  minAge : Int
  maxAge : Int
  fails : Int
  window : Int
  lock : Int
structure ERaw where
  parts : Sl
  aliases : Sl
  keys : Sl
  targets : Sl
  delegates : Sl
  history : Sl
def prinC (s : Sl) (p : Prin) : Array Value := #[.slice s.a p.parts.length s.cap, .string p.realm]
theorem prinC_size (s : Sl) (p : Prin) : (prinC s p).size = 2 := by simp [prinC]
theorem prinC_one (s : Sl) (p : Prin) : allOne (prinC s p) = true := by simp [allOne, prinC, Value.oneCell']
theorem prinC_g0 (s : Sl) (p : Prin) (h : 0 < (prinC s p).size) : (prinC s p)[0]'h = .slice s.a p.parts.length s.cap := by simp [prinC]
theorem prinC_g1 (s : Sl) (p : Prin) (h : 1 < (prinC s p).size) : (prinC s p)[1]'h = .string p.realm := by simp [prinC]
attribute [go_sem] prinC_size prinC_one prinC_g0 prinC_g1
def keyC (s : Sl) (k : Key) : Array Value := #[.int .i64 k.profile, .int .i64 k.version, .slice s.a k.bytes.length s.cap]
def setC (s : Sl) (k : KeySet) : Array Value := #[.int .i64 k.version, .slice s.a k.keys.length s.cap, .string k.salt, .int .i64 k.iterations, .int .i64 k.created]
theorem setC_size (s : Sl) (k : KeySet) : (setC s k).size = 5 := by simp [setC]
theorem setC_g1 (s : Sl) (k : KeySet) (h : 1 < (setC s k).size) : (setC s k)[1]'h = .slice s.a k.keys.length s.cap := by simp [setC]
theorem setC_g2 (s : Sl) (k : KeySet) (h : 2 < (setC s k).size) : (setC s k)[2]'h = .string k.salt := by simp [setC]
attribute [go_sem] setC_size setC_g1 setC_g2
def entC (r : ERaw) (d : Entry) : Array Value := #[.slice r.parts.a d.name.parts.length r.parts.cap, .string d.name.realm, .slice r.aliases.a d.aliases.length r.aliases.cap, .int .u32 d.attrs, .int .i64 d.master, .slice r.keys.a d.keys.length r.keys.cap, .string d.policy, .int .i64 d.expires, .int .i64 d.pwExpires, .int .i64 d.maxLife, .int .i64 d.maxRenew, .int .i64 d.fails, .int .i64 d.lastFail, .int .i64 d.lastSuccess, .slice r.targets.a d.targets.length r.targets.cap, .slice r.delegates.a d.delegates.length r.delegates.cap, .slice r.history.a d.history.length r.history.cap]
theorem entC_size (r : ERaw) (d : Entry) : (entC r d).size = 17 := by simp [entC]
theorem entC_one (r : ERaw) (d : Entry) : allOne (entC r d) = true := by simp [allOne, entC, Value.oneCell']
theorem entC_g2 (r : ERaw) (d : Entry) (h : 2 < (entC r d).size) : (entC r d)[2]'h = .slice r.aliases.a d.aliases.length r.aliases.cap := by simp [entC]
theorem entC_g5 (r : ERaw) (d : Entry) (h : 5 < (entC r d).size) : (entC r d)[5]'h = .slice r.keys.a d.keys.length r.keys.cap := by simp [entC]
theorem entC_g6 (r : ERaw) (d : Entry) (h : 6 < (entC r d).size) : (entC r d)[6]'h = .string d.policy := by simp [entC]
theorem entC_g14 (r : ERaw) (d : Entry) (h : 14 < (entC r d).size) : (entC r d)[14]'h = .slice r.targets.a d.targets.length r.targets.cap := by simp [entC]
theorem entC_g15 (r : ERaw) (d : Entry) (h : 15 < (entC r d).size) : (entC r d)[15]'h = .slice r.delegates.a d.delegates.length r.delegates.cap := by simp [entC]
theorem entC_g16 (r : ERaw) (d : Entry) (h : 16 < (entC r d).size) : (entC r d)[16]'h = .slice r.history.a d.history.length r.history.cap := by simp [entC]
theorem entC_set_master (r : ERaw) (d : Entry) (v : Int) : (entC r d).setIfInBounds 4 (.int .i64 v) = entC r { d with master := v } := by kernel_rfl
theorem entC_set_expires (r : ERaw) (d : Entry) (v : Int) : (entC r d).setIfInBounds 7 (.int .i64 v) = entC r { d with expires := v } := by kernel_rfl
theorem entC_set_pwExpires (r : ERaw) (d : Entry) (v : Int) : (entC r d).setIfInBounds 8 (.int .i64 v) = entC r { d with pwExpires := v } := by kernel_rfl
theorem entC_set_maxLife (r : ERaw) (d : Entry) (v : Int) : (entC r d).setIfInBounds 9 (.int .i64 v) = entC r { d with maxLife := v } := by kernel_rfl
theorem entC_set_maxRenew (r : ERaw) (d : Entry) (v : Int) : (entC r d).setIfInBounds 10 (.int .i64 v) = entC r { d with maxRenew := v } := by kernel_rfl
theorem entC_set_fails (r : ERaw) (d : Entry) (v : Int) : (entC r d).setIfInBounds 11 (.int .i64 v) = entC r { d with fails := v } := by kernel_rfl
theorem entC_set_lastFail (r : ERaw) (d : Entry) (v : Int) : (entC r d).setIfInBounds 12 (.int .i64 v) = entC r { d with lastFail := v } := by kernel_rfl
theorem entC_set_lastSuccess (r : ERaw) (d : Entry) (v : Int) : (entC r d).setIfInBounds 13 (.int .i64 v) = entC r { d with lastSuccess := v } := by kernel_rfl
theorem entC_name (r : ERaw) (d : Entry) : subRow (entC r d) 0 2 = some (prinC r.parts d.name) := by kernel_rfl
attribute [go_sem] entC_size entC_one entC_g2 entC_g5 entC_g6 entC_g14 entC_g15 entC_g16 entC_set_master entC_set_expires entC_set_pwExpires entC_set_maxLife entC_set_maxRenew entC_set_fails entC_set_lastFail entC_set_lastSuccess entC_name
def polC (p : Policy) : Array Value := #[.string p.name, .int .i64 p.length, .int .i64 p.classes, .int .i64 p.distinct, .int .i64 p.history, .int .i64 p.minAge, .int .i64 p.maxAge, .int .i64 p.fails, .int .i64 p.window, .int .i64 p.lock]
theorem polC_size (p : Policy) : (polC p).size = 10 := by simp [polC]
theorem polC_one (p : Policy) : allOne (polC p) = true := by simp [allOne, polC, Value.oneCell']
theorem polC_g0 (p : Policy) (h : 0 < (polC p).size) : (polC p)[0]'h = .string p.name := by simp [polC]
attribute [go_sem] polC_size polC_one polC_g0
def accC (r : ERaw) (d : Entry) (p : Policy) : Array Value := #[.slice r.parts.a d.name.parts.length r.parts.cap, .string d.name.realm, .slice r.aliases.a d.aliases.length r.aliases.cap, .int .u32 d.attrs, .int .i64 d.master, .slice r.keys.a d.keys.length r.keys.cap, .string d.policy, .int .i64 d.expires, .int .i64 d.pwExpires, .int .i64 d.maxLife, .int .i64 d.maxRenew, .int .i64 d.fails, .int .i64 d.lastFail, .int .i64 d.lastSuccess, .slice r.targets.a d.targets.length r.targets.cap, .slice r.delegates.a d.delegates.length r.delegates.cap, .slice r.history.a d.history.length r.history.cap, .string p.name, .int .i64 p.length, .int .i64 p.classes, .int .i64 p.distinct, .int .i64 p.history, .int .i64 p.minAge, .int .i64 p.maxAge, .int .i64 p.fails, .int .i64 p.window, .int .i64 p.lock]
theorem accC_set_master (r : ERaw) (d : Entry) (p : Policy) (v : Int) : (accC r d p).setIfInBounds 4 (.int .i64 v) = accC r { d with master := v } p := by kernel_rfl
theorem accC_set_expires (r : ERaw) (d : Entry) (p : Policy) (v : Int) : (accC r d p).setIfInBounds 7 (.int .i64 v) = accC r { d with expires := v } p := by kernel_rfl
theorem accC_set_pwExpires (r : ERaw) (d : Entry) (p : Policy) (v : Int) : (accC r d p).setIfInBounds 8 (.int .i64 v) = accC r { d with pwExpires := v } p := by kernel_rfl
theorem accC_set_maxLife (r : ERaw) (d : Entry) (p : Policy) (v : Int) : (accC r d p).setIfInBounds 9 (.int .i64 v) = accC r { d with maxLife := v } p := by kernel_rfl
theorem accC_set_maxRenew (r : ERaw) (d : Entry) (p : Policy) (v : Int) : (accC r d p).setIfInBounds 10 (.int .i64 v) = accC r { d with maxRenew := v } p := by kernel_rfl
theorem accC_set_fails (r : ERaw) (d : Entry) (p : Policy) (v : Int) : (accC r d p).setIfInBounds 11 (.int .i64 v) = accC r { d with fails := v } p := by kernel_rfl
theorem accC_set_lastFail (r : ERaw) (d : Entry) (p : Policy) (v : Int) : (accC r d p).setIfInBounds 12 (.int .i64 v) = accC r { d with lastFail := v } p := by kernel_rfl
theorem accC_set_lastSuccess (r : ERaw) (d : Entry) (p : Policy) (v : Int) : (accC r d p).setIfInBounds 13 (.int .i64 v) = accC r { d with lastSuccess := v } p := by kernel_rfl
theorem accC_sub0 (r : ERaw) (d : Entry) (p : Policy) : subRow (accC r d p) 0 17 = some (entC r d) := by kernel_rfl
theorem accC_sub1 (r : ERaw) (d : Entry) (p : Policy) : subRow (accC r d p) 17 10 = some (polC p) := by kernel_rfl
theorem accC_sub2 (r : ERaw) (d : Entry) (p : Policy) : subRow (accC r d p) 0 2 = some (prinC r.parts d.name) := by kernel_rfl
theorem accC_ent (r : ERaw) (d : Entry) (p : Policy) : (accC r d p).extract 0 17 = entC r d := by kernel_rfl
theorem accC_pol (r : ERaw) (d : Entry) (p : Policy) : (accC r d p).extract 17 27 = polC p := by kernel_rfl
attribute [go_sem] accC_set_master accC_set_expires accC_set_pwExpires accC_set_maxLife accC_set_maxRenew accC_set_fails accC_set_lastFail accC_set_lastSuccess accC_sub0 accC_sub1 accC_sub2 accC_ent accC_pol
end Go.WW
/- How the plain data lie in memory. -/
namespace Go.WW
open Go.RowKit
def lim : Nat := 4294967000
section
variable (w : World)
def RowsAt (k : Nat) (a : Option Addr) (n : Nat) (R : Nat → Array Value → Prop) : Prop :=
  n ≤ lim ∧ ∀ i, i < n → ∃ b o cs, a = some ⟨b, o, none⟩ ∧ row? w b (o + i * k) k = some cs ∧ R i cs
def CellsAt (a : Option Addr) (n : Nat) (R : Nat → Value → Prop) : Prop :=
  n ≤ lim ∧ ∀ i, i < n → ∃ b o v, a = some ⟨b, o, none⟩ ∧ w.cell? ⟨b, o + i, none⟩ = some v ∧ R i v
def StrsAt (a : Option Addr) (l : List ByteArray) : Prop := CellsAt w a l.length fun i v => ∃ s, l[i]? = some s ∧ v = .string s ∧ s.size ≤ lim
def BytesAt (a : Option Addr) (l : List UInt8) : Prop := CellsAt w a l.length fun i v => ∃ c, l[i]? = some c ∧ v = .int .u8 c.toNat
def IntsAt (a : Option Addr) (l : List Int) : Prop := CellsAt w a l.length fun i v => ∃ c, l[i]? = some c ∧ v = .int .i64 c
def BoolsAt (a : Option Addr) (l : List Bool) : Prop := CellsAt w a l.length fun i v => ∃ c, l[i]? = some c ∧ v = .bool c
def PrinAt (s : Sl) (p : Prin) : Prop := StrsAt w s.a p.parts ∧ p.realm.size ≤ lim
def PrinsAt (a : Option Addr) (l : List Prin) : Prop := RowsAt w 2 a l.length fun i cs => ∃ p s, l[i]? = some p ∧ cs = prinC s p ∧ PrinAt w s p
def KeyAt (s : Sl) (k : Key) : Prop := BytesAt w s.a k.bytes
def KeysAt (a : Option Addr) (l : List Key) : Prop := RowsAt w 3 a l.length fun i cs => ∃ k s, l[i]? = some k ∧ cs = keyC s k ∧ KeyAt w s k
def SetAt (s : Sl) (k : KeySet) : Prop := KeysAt w s.a k.keys ∧ k.salt.size ≤ lim
def SetsAt (a : Option Addr) (l : List KeySet) : Prop := RowsAt w 5 a l.length fun i cs => ∃ k s, l[i]? = some k ∧ cs = setC s k ∧ SetAt w s k
def HistAt (a : Option Addr) (l : List (List UInt8)) : Prop := CellsAt w a l.length fun i v => ∃ x, ∃ s : Sl, l[i]? = some x ∧ v = .slice s.a x.length s.cap ∧ BytesAt w s.a x
structure EntAt (r : ERaw) (d : Entry) : Prop where
  name : PrinAt w r.parts d.name
  aliases : PrinsAt w r.aliases.a d.aliases
  keys : SetsAt w r.keys.a d.keys
  targets : PrinsAt w r.targets.a d.targets
  delegates : PrinsAt w r.delegates.a d.delegates
  history : HistAt w r.history.a d.history
  policy : d.policy.size ≤ lim
  attrs : 0 ≤ d.attrs ∧ d.attrs ≤ 4294967295
end
section
variable {w w' : World} (h : Below w.heap.size w w')
include h
theorem RowsAt.later {k : Nat} {a : Option Addr} {n : Nat} {R R' : Nat → Array Value → Prop} (hR : ∀ i cs, R i cs → R' i cs) (x : RowsAt w k a n R) : RowsAt w' k a n R' := by
  refine ⟨x.1, fun i hi => ?_⟩
  obtain ⟨b, o, cs, ha, hr, hR1⟩ := x.2 i hi
  exact ⟨b, o, cs, ha, by rw [row?_of_block (h.block b (row?_lt hr))]; exact hr, hR i cs hR1⟩
theorem CellsAt.later {a : Option Addr} {n : Nat} {R R' : Nat → Value → Prop} (hR : ∀ i cs, R i cs → R' i cs) (x : CellsAt w a n R) : CellsAt w' a n R' := by
  refine ⟨x.1, fun i hi => ?_⟩
  obtain ⟨b, o, cs, ha, hr, hR1⟩ := x.2 i hi
  exact ⟨b, o, cs, ha, by rw [h.cell (World.block_lt_of_cell? w _ hr)]; exact hr, hR i cs hR1⟩
theorem StrsAt.later {a : Option Addr} {l : List ByteArray} (x : StrsAt w a l) : StrsAt w' a l := CellsAt.later h (fun _ _ y => y) x
theorem BytesAt.later {a : Option Addr} {l : List UInt8} (x : BytesAt w a l) : BytesAt w' a l := CellsAt.later h (fun _ _ y => y) x
theorem IntsAt.later {a : Option Addr} {l : List Int} (x : IntsAt w a l) : IntsAt w' a l := CellsAt.later h (fun _ _ y => y) x
theorem BoolsAt.later {a : Option Addr} {l : List Bool} (x : BoolsAt w a l) : BoolsAt w' a l := CellsAt.later h (fun _ _ y => y) x
theorem PrinAt.later {s : Sl} {p : Prin} (x : PrinAt w s p) : PrinAt w' s p := ⟨x.1.later h, x.2⟩
theorem PrinsAt.later {a : Option Addr} {l : List Prin} (x : PrinsAt w a l) : PrinsAt w' a l := RowsAt.later h (fun _ _ ⟨p, s, y1, y2, y3⟩ => ⟨p, s, y1, y2, y3.later h⟩) x
theorem KeyAt.later {s : Sl} {k : Key} (x : KeyAt w s k) : KeyAt w' s k := BytesAt.later h x
theorem KeysAt.later {a : Option Addr} {l : List Key} (x : KeysAt w a l) : KeysAt w' a l := RowsAt.later h (fun _ _ ⟨p, s, y1, y2, y3⟩ => ⟨p, s, y1, y2, y3.later h⟩) x
theorem SetAt.later {s : Sl} {k : KeySet} (x : SetAt w s k) : SetAt w' s k := ⟨x.1.later h, x.2⟩
theorem SetsAt.later {a : Option Addr} {l : List KeySet} (x : SetsAt w a l) : SetsAt w' a l := RowsAt.later h (fun _ _ ⟨p, s, y1, y2, y3⟩ => ⟨p, s, y1, y2, y3.later h⟩) x
theorem HistAt.later {a : Option Addr} {l : List (List UInt8)} (x : HistAt w a l) : HistAt w' a l := CellsAt.later h (fun _ _ ⟨p, s, y1, y2, y3⟩ => ⟨p, s, y1, y2, y3.later h⟩) x
theorem EntAt.later {r : ERaw} {d : Entry} (x : EntAt w r d) : EntAt w' r d :=
  ⟨x.name.later h, x.aliases.later h, x.keys.later h, x.targets.later h, x.delegates.later h, x.history.later h, x.policy, x.attrs⟩
end
section
variable {w : World} {a : Option Addr}
theorem StrsAt.get {l : List ByteArray} (x : StrsAt w a l) (i : Nat) (h : i < l.length) : ∃ b o, a = some ⟨b, o, none⟩ ∧ w.cell? ⟨b, o + i, none⟩ = some (.string l[i]) ∧ l[i].size ≤ lim := by
  obtain ⟨b, o, v, h1, h2, s, h3, rfl, h4⟩ := x.2 i h
  rw [List.getElem?_eq_getElem h] at h3; cases h3
  exact ⟨b, o, h1, h2, h4⟩
theorem BytesAt.get {l : List UInt8} (x : BytesAt w a l) (i : Nat) (h : i < l.length) : ∃ b o, a = some ⟨b, o, none⟩ ∧ w.cell? ⟨b, o + i, none⟩ = some (.int .u8 l[i].toNat) := by
  obtain ⟨b, o, v, h1, h2, s, h3, rfl⟩ := x.2 i h
  rw [List.getElem?_eq_getElem h] at h3; cases h3
  exact ⟨b, o, h1, h2⟩
theorem IntsAt.get {l : List Int} (x : IntsAt w a l) (i : Nat) (h : i < l.length) : ∃ b o, a = some ⟨b, o, none⟩ ∧ w.cell? ⟨b, o + i, none⟩ = some (.int .i64 l[i]) := by
  obtain ⟨b, o, v, h1, h2, s, h3, rfl⟩ := x.2 i h
  rw [List.getElem?_eq_getElem h] at h3; cases h3
  exact ⟨b, o, h1, h2⟩
theorem BoolsAt.get {l : List Bool} (x : BoolsAt w a l) (i : Nat) (h : i < l.length) : ∃ b o, a = some ⟨b, o, none⟩ ∧ w.cell? ⟨b, o + i, none⟩ = some (.bool l[i]) := by
  obtain ⟨b, o, v, h1, h2, s, h3, rfl⟩ := x.2 i h
  rw [List.getElem?_eq_getElem h] at h3; cases h3
  exact ⟨b, o, h1, h2⟩
theorem PrinsAt.get {l : List Prin} (x : PrinsAt w a l) (i : Nat) (h : i < l.length) : ∃ b o s, a = some ⟨b, o, none⟩ ∧ row? w b (o + i * 2) 2 = some (prinC s l[i]) ∧ PrinAt w s l[i] := by
  obtain ⟨b, o, v, h1, h2, p, s, h3, rfl, h4⟩ := x.2 i h
  rw [List.getElem?_eq_getElem h] at h3; cases h3
  exact ⟨b, o, s, h1, h2, h4⟩
theorem KeysAt.get {l : List Key} (x : KeysAt w a l) (i : Nat) (h : i < l.length) : ∃ b o s, a = some ⟨b, o, none⟩ ∧ row? w b (o + i * 3) 3 = some (keyC s l[i]) ∧ KeyAt w s l[i] := by
  obtain ⟨b, o, v, h1, h2, p, s, h3, rfl, h4⟩ := x.2 i h
  rw [List.getElem?_eq_getElem h] at h3; cases h3
  exact ⟨b, o, s, h1, h2, h4⟩
theorem SetsAt.get {l : List KeySet} (x : SetsAt w a l) (i : Nat) (h : i < l.length) : ∃ b o s, a = some ⟨b, o, none⟩ ∧ row? w b (o + i * 5) 5 = some (setC s l[i]) ∧ SetAt w s l[i] := by
  obtain ⟨b, o, v, h1, h2, p, s, h3, rfl, h4⟩ := x.2 i h
  rw [List.getElem?_eq_getElem h] at h3; cases h3
  exact ⟨b, o, s, h1, h2, h4⟩
theorem HistAt.get {l : List (List UInt8)} (x : HistAt w a l) (i : Nat) (h : i < l.length) : ∃ b o, ∃ s : Sl, a = some ⟨b, o, none⟩ ∧ w.cell? ⟨b, o + i, none⟩ = some (.slice s.a l[i].length s.cap) ∧ BytesAt w s.a l[i] := by
  obtain ⟨b, o, v, h1, h2, p, s, h3, rfl, h4⟩ := x.2 i h
  rw [List.getElem?_eq_getElem h] at h3; cases h3
  exact ⟨b, o, s, h1, h2, h4⟩
end
theorem RowsAt.addr {w : World} {k n : Nat} {a : Option Addr} {R : Nat → Array Value → Prop} (x : RowsAt w k a n R) : n = 0 ∨ ∃ b o, a = some ⟨b, o, none⟩ ∧ b < w.heap.size := by
  rcases Nat.eq_zero_or_pos n with h | h
  · exact .inl h
  · obtain ⟨b, o, cs, ha, hr, _⟩ := x.2 0 h
    exact .inr ⟨b, o, ha, row?_lt hr⟩
theorem CellsAt.addr {w : World} {n : Nat} {a : Option Addr} {R : Nat → Value → Prop} (x : CellsAt w a n R) : n = 0 ∨ ∃ b o, a = some ⟨b, o, none⟩ ∧ b < w.heap.size := by
  rcases Nat.eq_zero_or_pos n with h | h
  · exact .inl h
  · obtain ⟨b, o, v, ha, hr, _⟩ := x.2 0 h
    exact .inr ⟨b, o, ha, World.block_lt_of_cell? w _ hr⟩
theorem StrsAt.at {w : World} {b o : Nat} {l : List ByteArray} (x : StrsAt w (some ⟨b, o, none⟩) l) (i : Nat) (h : i < l.length) : w.cell? ⟨b, o + i, none⟩ = some (.string l[i]) ∧ l[i].size ≤ lim := by
  obtain ⟨b', o', ha, hc, hs⟩ := x.get i h; cases ha; exact ⟨hc, hs⟩
theorem BytesAt.at {w : World} {b o : Nat} {l : List UInt8} (x : BytesAt w (some ⟨b, o, none⟩) l) (i : Nat) (h : i < l.length) : w.cell? ⟨b, o + i, none⟩ = some (.int .u8 l[i].toNat) := by
  obtain ⟨b', o', ha, hc⟩ := x.get i h; cases ha; exact hc
theorem IntsAt.at {w : World} {b o : Nat} {l : List Int} (x : IntsAt w (some ⟨b, o, none⟩) l) (i : Nat) (h : i < l.length) : w.cell? ⟨b, o + i, none⟩ = some (.int .i64 l[i]) := by
  obtain ⟨b', o', ha, hc⟩ := x.get i h; cases ha; exact hc
theorem BoolsAt.at {w : World} {b o : Nat} {l : List Bool} (x : BoolsAt w (some ⟨b, o, none⟩) l) (i : Nat) (h : i < l.length) : w.cell? ⟨b, o + i, none⟩ = some (.bool l[i]) := by
  obtain ⟨b', o', ha, hc⟩ := x.get i h; cases ha; exact hc
theorem PrinsAt.at {w : World} {b o : Nat} {l : List Prin} (x : PrinsAt w (some ⟨b, o, none⟩) l) (i : Nat) (h : i < l.length) : ∃ s, row? w b (o + i * 2) 2 = some (prinC s l[i]) ∧ PrinAt w s l[i] := by
  obtain ⟨b', o', s, ha, hc⟩ := x.get i h; cases ha; exact ⟨s, hc⟩
theorem KeysAt.at {w : World} {b o : Nat} {l : List Key} (x : KeysAt w (some ⟨b, o, none⟩) l) (i : Nat) (h : i < l.length) : ∃ s, row? w b (o + i * 3) 3 = some (keyC s l[i]) ∧ KeyAt w s l[i] := by
  obtain ⟨b', o', s, ha, hc⟩ := x.get i h; cases ha; exact ⟨s, hc⟩
theorem SetsAt.at {w : World} {b o : Nat} {l : List KeySet} (x : SetsAt w (some ⟨b, o, none⟩) l) (i : Nat) (h : i < l.length) : ∃ s, row? w b (o + i * 5) 5 = some (setC s l[i]) ∧ SetAt w s l[i] := by
  obtain ⟨b', o', s, ha, hc⟩ := x.get i h; cases ha; exact ⟨s, hc⟩
theorem HistAt.at {w : World} {b o : Nat} {l : List (List UInt8)} (x : HistAt w (some ⟨b, o, none⟩) l) (i : Nat) (h : i < l.length) : ∃ s : Sl, w.cell? ⟨b, o + i, none⟩ = some (.slice s.a l[i].length s.cap) ∧ BytesAt w s.a l[i] := by
  obtain ⟨b', o', s, ha, hc⟩ := x.get i h; cases ha; exact ⟨s, hc⟩
end Go.WW
/- The loads of this program's structs, whole. -/
namespace Go.Proofs.YtidadlcknkeodaaGreatDoor
open Go.RowKit Go.WW
def structBuild (T : TypeId) (parts : Array (Nat × Value)) : Sem Next := do pure (.value (← Instr.build T parts))
theorem loadPrincipal (w : World) (b o : Nat) : (structLoad 25 (.pointer (some ⟨b, o, none⟩))).run Tryz.prog w = rowOut Tryz.prog 25 w b o (row? w b o 2) := run_structLoad Tryz.underlying25 rfl (by kernel_rfl) w b o
theorem execOp_loadPrincipal (ρ : Operand → Value) (dst : Option Tmp) (x : Operand) (ty : TypeId) (pos : String) (after : Array Edge) (guard : Option (Nat × Bool)) : execOp ρ { dst, op := .load 25 x, type := ty, pos, after, guard } = structLoad 25 (ρ x) := rfl
attribute [go_sem] loadPrincipal
attribute [go_sem ↓] execOp_loadPrincipal
theorem execOp_loadKey (ρ : Operand → Value) (dst : Option Tmp) (x : Operand) (ty : TypeId) (pos : String) (after : Array Edge) (guard : Option (Nat × Bool)) : execOp ρ { dst, op := .load 290 x, type := ty, pos, after, guard } = structLoad 290 (ρ x) := rfl
attribute [go_sem ↓] execOp_loadKey
theorem execOp_loadKeySet (ρ : Operand → Value) (dst : Option Tmp) (x : Operand) (ty : TypeId) (pos : String) (after : Array Edge) (guard : Option (Nat × Bool)) : execOp ρ { dst, op := .load 88 x, type := ty, pos, after, guard } = structLoad 88 (ρ x) := rfl
attribute [go_sem ↓] execOp_loadKeySet
theorem loadEntry (w : World) (b o : Nat) : (structLoad 32 (.pointer (some ⟨b, o, none⟩))).run Tryz.prog w = rowOut Tryz.prog 32 w b o (row? w b o 17) := run_structLoad Tryz.underlying32 rfl (by kernel_rfl) w b o
theorem execOp_loadEntry (ρ : Operand → Value) (dst : Option Tmp) (x : Operand) (ty : TypeId) (pos : String) (after : Array Edge) (guard : Option (Nat × Bool)) : execOp ρ { dst, op := .load 32 x, type := ty, pos, after, guard } = structLoad 32 (ρ x) := rfl
attribute [go_sem] loadEntry
attribute [go_sem ↓] execOp_loadEntry
theorem loadPolicy (w : World) (b o : Nat) : (structLoad 34 (.pointer (some ⟨b, o, none⟩))).run Tryz.prog w = rowOut Tryz.prog 34 w b o (row? w b o 10) := run_structLoad Tryz.underlying34 rfl (by kernel_rfl) w b o
theorem execOp_loadPolicy (ρ : Operand → Value) (dst : Option Tmp) (x : Operand) (ty : TypeId) (pos : String) (after : Array Edge) (guard : Option (Nat × Bool)) : execOp ρ { dst, op := .load 34 x, type := ty, pos, after, guard } = structLoad 34 (ρ x) := rfl
attribute [go_sem] loadPolicy
attribute [go_sem ↓] execOp_loadPolicy
theorem execOp_storePrincipal (ρ : Operand → Value) (dst : Option Tmp) (x y : Operand) (ty : TypeId) (pos : String) (after : Array Edge) (guard : Option (Nat × Bool)) : execOp ρ { dst, op := .store 25 x y, type := ty, pos, after, guard } = structStore 25 (ρ x) (ρ y) := rfl
attribute [go_sem ↓] execOp_storePrincipal
theorem execOp_storeKey (ρ : Operand → Value) (dst : Option Tmp) (x y : Operand) (ty : TypeId) (pos : String) (after : Array Edge) (guard : Option (Nat × Bool)) : execOp ρ { dst, op := .store 290 x y, type := ty, pos, after, guard } = structStore 290 (ρ x) (ρ y) := rfl
attribute [go_sem ↓] execOp_storeKey
theorem execOp_storeKeySet (ρ : Operand → Value) (dst : Option Tmp) (x y : Operand) (ty : TypeId) (pos : String) (after : Array Edge) (guard : Option (Nat × Bool)) : execOp ρ { dst, op := .store 88 x y, type := ty, pos, after, guard } = structStore 88 (ρ x) (ρ y) := rfl
attribute [go_sem ↓] execOp_storeKeySet
theorem storeEntry (w : World) (b o : Nat) (cs : Array Value) (hn : cs.size = 17) (h1 : allOne cs = true) : (structStore 32 (.pointer (some ⟨b, o, none⟩)) (.agg cs)).run Tryz.prog w = storeOut Tryz.prog 32 w b o cs (canPut w b o 17) := run_structStore (by kernel_rfl) w b o cs hn h1
theorem execOp_storeEntry (ρ : Operand → Value) (dst : Option Tmp) (x y : Operand) (ty : TypeId) (pos : String) (after : Array Edge) (guard : Option (Nat × Bool)) : execOp ρ { dst, op := .store 32 x y, type := ty, pos, after, guard } = structStore 32 (ρ x) (ρ y) := rfl
attribute [go_sem] storeEntry
attribute [go_sem ↓] execOp_storeEntry
theorem storePolicy (w : World) (b o : Nat) (cs : Array Value) (hn : cs.size = 10) (h1 : allOne cs = true) : (structStore 34 (.pointer (some ⟨b, o, none⟩)) (.agg cs)).run Tryz.prog w = storeOut Tryz.prog 34 w b o cs (canPut w b o 10) := run_structStore (by kernel_rfl) w b o cs hn h1
theorem execOp_storePolicy (ρ : Operand → Value) (dst : Option Tmp) (x y : Operand) (ty : TypeId) (pos : String) (after : Array Edge) (guard : Option (Nat × Bool)) : execOp ρ { dst, op := .store 34 x y, type := ty, pos, after, guard } = structStore 34 (ρ x) (ρ y) := rfl
attribute [go_sem] storePolicy
attribute [go_sem ↓] execOp_storePolicy
end Go.Proofs.YtidadlcknkeodaaGreatDoor
/- The order of principals, in plain terms. -/
namespace Go.WW
structure TotalCmp {α : Type} (c : α → α → Int) : Prop where
  zero : ∀ a b, c a b = 0 ↔ a = b
  anti : ∀ a b, c b a = - c a b
  trans : ∀ a b d, c a b < 0 → c b d < 0 → c a d < 0
theorem bl_irrefl : ∀ l : List UInt8, Op.bytesLess l l = false
  | [] => rfl
  | a :: l => by simp [Op.bytesLess, bl_irrefl l]
theorem bl_total : ∀ a b : List UInt8, Op.bytesLess a b = false → Op.bytesLess b a = false → a = b
  | [], [], _, _ => rfl
  | [], _ :: _, h, _ => by simp [Op.bytesLess] at h
  | _ :: _, [], _, h => by simp [Op.bytesLess] at h
  | a :: x, b :: y, h, h' => by
    simp only [Op.bytesLess, Bool.or_eq_false_iff, decide_eq_false_iff_not, Bool.and_eq_false_iff] at h h'
    have e : a = b := UInt8.le_antisymm (UInt8.not_lt.1 h'.1) (UInt8.not_lt.1 h.1)
    subst e
    have h1 : Op.bytesLess x y = false := by rcases h.2 with h | h; simp at h; exact h
    have h2 : Op.bytesLess y x = false := by rcases h'.2 with h | h; simp at h; exact h
    rw [bl_total x y h1 h2]
theorem bl_trans : ∀ a b d : List UInt8, Op.bytesLess a b = true → Op.bytesLess b d = true → Op.bytesLess a d = true
  | _, [], _, h, _ => by simp [Op.bytesLess] at h
  | _, _ :: _, [], _, h => by simp [Op.bytesLess] at h
  | [], _ :: _, _ :: _, _, _ => rfl
  | a :: x, b :: y, d :: z, h, h' => by
    simp only [Op.bytesLess, Bool.or_eq_true, decide_eq_true_eq, Bool.and_eq_true, beq_iff_eq] at h h' ⊢
    rcases h with h | ⟨rfl, h⟩
    · rcases h' with h' | ⟨rfl, h'⟩
      · exact .inl (UInt8.lt_trans h h')
      · exact .inl h
    · rcases h' with h' | ⟨rfl, h'⟩
      · exact .inl h'
      · exact .inr ⟨rfl, bl_trans x y z h h'⟩
def cmpT (a b : ByteArray) : Int := if Op.bytesLess a.toList b.toList then -1 else if Op.bytesLess b.toList a.toList then 1 else 0
theorem toList_inj {a b : ByteArray} (h : a.toList = b.toList) : a = b := by
  rw [ByteArray.toList_eq, ByteArray.toList_eq] at h; exact WideShapes.bytes_inj h
theorem cmpT_total : TotalCmp cmpT where
  zero a b := by
    unfold cmpT
    constructor
    · intro h
      split at h
      · omega
      · split at h
        · omega
        · rename_i h1 h2
          exact toList_inj (bl_total _ _ (by simpa using h1) (by simpa using h2))
    · rintro rfl; simp [bl_irrefl]
  anti a b := by
    unfold cmpT
    cases h1 : Op.bytesLess a.toList b.toList <;> cases h2 : Op.bytesLess b.toList a.toList <;> simp
    have := bl_trans _ _ _ h1 h2
    rw [bl_irrefl] at this; cases this
  trans a b d h1 h2 := by
    unfold cmpT at *
    have e1 : Op.bytesLess a.toList b.toList = true := by
      cases h : Op.bytesLess a.toList b.toList
      · rw [h] at h1; cases h' : Op.bytesLess b.toList a.toList <;> rw [h'] at h1 <;> simp at h1
      · rfl
    have e2 : Op.bytesLess b.toList d.toList = true := by
      cases h : Op.bytesLess b.toList d.toList
      · rw [h] at h2; cases h' : Op.bytesLess d.toList b.toList <;> rw [h'] at h2 <;> simp at h2
      · rfl
    rw [bl_trans _ _ _ e1 e2]; simp
def cmpL {α : Type} (c : α → α → Int) : List α → List α → Int
  | [], [] => 0
  | [], _ :: _ => -1
  | _ :: _, [] => 1
  | a :: x, b :: y => if c a b = 0 then cmpL c x y else c a b
def cmpParts : List ByteArray → List ByteArray → Int := cmpL cmpT
def cmpPrin (p q : Prin) : Int := if cmpT p.realm q.realm = 0 then cmpParts p.parts q.parts else cmpT p.realm q.realm
end Go.WW
/- Lists in order, in plain terms: a sorted list is one, whatever the order in which its elements came. -/
namespace Go.WW
section
variable {α β : Type} {c : β → β → Int} (k : α → β)
def Sorted (c : β → β → Int) (k : α → β) (l : List α) : Prop := l.Pairwise fun a b => c (k a) (k b) < 0
def insertBy (c : β → β → Int) (k : α → β) (e : α) : List α → List α
  | [] => [e]
  | d :: l => if c (k e) (k d) < 0 then e :: d :: l else d :: insertBy c k e l
theorem sorted_eq (h : TotalCmp c) : ∀ (l m : List α), Sorted c k l → Sorted c k m → l.Perm m → l = m
  | [], m, _, _, hp => by simp [hp.symm.eq_nil] 
  | a :: l, [], _, _, hp => by simpa using hp.eq_nil
  | a :: l, b :: m, hs, ht, hp => by
    have hs' := List.pairwise_cons.1 hs
    have ht' := List.pairwise_cons.1 ht
    have e : a = b := by
      have ha : a ∈ b :: m := hp.mem_iff.1 (by simp)
      have hb : b ∈ a :: l := hp.mem_iff.2 (by simp)
      rcases List.mem_cons.1 ha with e | ha
      · exact e
      · rcases List.mem_cons.1 hb with e | hb
        · exact e.symm
        · have h1 := ht'.1 a ha
          have h2 := hs'.1 b hb
          have h3 := h.anti (k a) (k b)
          omega
    subst e
    rw [sorted_eq h l m hs'.2 ht'.2 (List.Perm.cons_inv hp)]
end
end Go.WW
/- Maps keyed by strings, and what may change. -/
namespace Go.WW
open Go.RowKit
structure But (S : Nat → Prop) (w w' : World) : Prop where
  os : w'.os = w.os
  tape : w'.tape = w.tape
  output : w'.output = w.output
  size : w.heap.size ≤ w'.heap.size
  block : ∀ k, k < w.heap.size → ¬ S k → w'.heap[k]? = w.heap[k]?
theorem But.refl (S : Nat → Prop) (w : World) : But S w w := ⟨rfl, rfl, rfl, Nat.le_refl _, fun _ _ _ => rfl⟩
theorem But.trans {S : Nat → Prop} {a b c : World} (h : But S a b) (k : But S b c) : But S a c :=
  ⟨k.os.trans h.os, k.tape.trans h.tape, k.output.trans h.output, Nat.le_trans h.size k.size, fun i hi hS => (k.block i (Nat.lt_of_lt_of_le hi h.size) hS).trans (h.block i hi hS)⟩
theorem But.of_below {S : Nat → Prop} {w w' : World} (h : Below w.heap.size w w') : But S w w' := ⟨h.os, h.tape, h.output, h.size, fun k hk _ => h.block k hk⟩
theorem But.mono {S S' : Nat → Prop} {w w' : World} (h : But S w w') (hS : ∀ k, S k → S' k) : But S' w w' := ⟨h.os, h.tape, h.output, h.size, fun k hk hn => h.block k hk (fun x => hn (hS k x))⟩
theorem But.below {S : Nat → Prop} {w w' : World} {n : Nat} (h : But S w w') (hn : n ≤ w.heap.size) (hS : ∀ k, S k → n ≤ k) : Below n w w' :=
  ⟨h.os, h.tape, h.output, h.size, fun k hk => h.block k (Nat.lt_of_lt_of_le hk hn) (fun x => absurd (hS k x) (by omega))⟩
structure MapRep (es : Array MapEntry) (clock : Nat) (m : List (ByteArray × Value)) : Prop where
  ents : es.toList.map (fun e => (e.key, e.val)) = m.map (fun x => (Value.string x.1, x.2))
  keys : (m.map (·.1)).Nodup
  born : ∀ e ∈ es.toList, e.born < clock
  once : (es.toList.map (·.born)).Nodup
def MapOf (w : World) (b : Nat) (m : List (ByteArray × Value)) : Prop := ∃ es clock, w.heap[b]? = some (.map es clock) ∧ MapRep es clock m
theorem MapOf.at {w w' : World} {b : Nat} {m : List (ByteArray × Value)} (h : MapOf w b m) (e : w'.heap[b]? = w.heap[b]?) : MapOf w' b m := by
  obtain ⟨es, clock, h1, h2⟩ := h
  exact ⟨es, clock, e.trans h1, h2⟩
theorem MapOf.lt {w : World} {b : Nat} {m : List (ByteArray × Value)} (h : MapOf w b m) : b < w.heap.size := by
  obtain ⟨es, clock, h1, _⟩ := h
  exact (Array.getElem?_eq_some_iff.1 h1).1
section
variable {P : Program} {w : World} {mty kt et : TypeId} {b : Nat} {m : List (ByteArray × Value)} {k : ByteArray}
def hasK (m : List (ByteArray × Value)) (k : ByteArray) : Bool := m.any fun x => decide (x.1 = k)
def setM (m : List (ByteArray × Value)) (k : ByteArray) (v : Value) : List (ByteArray × Value) := if hasK m k = true then m.map (fun x => if x.1 = k then (k, v) else x) else m ++ [(k, v)]
def delM (m : List (ByteArray × Value)) (k : ByteArray) : List (ByteArray × Value) := m.filter fun x => decide (x.1 ≠ k)
theorem putObj_but {w : World} {b : Nat} (o : Obj) : But (· = b) w (w.putObj b o) :=
  ⟨rfl, rfl, rfl, by simp [World.putObj], fun k _ hn => by simp only [World.putObj]; rw [Array.getElem?_setIfInBounds]; simp [Ne.symm (show k ≠ b from hn)]⟩
theorem MapOf.len (h : MapOf w b m) : ∃ es clock, w.heap[b]? = some (.map es clock) ∧ es.size = m.length := by
  obtain ⟨es, clock, hb, hr⟩ := h
  have h2 := congrArg List.length hr.ents
  simp only [List.length_map, Array.length_toList] at h2
  exact ⟨es, clock, hb, h2⟩
end
end Go.WW
/- A range over a map, in whatever order. -/
namespace Go.WW
open Go.RowKit
def IterOf (w : World) (i b : Nat) (m left : List (ByteArray × Value)) : Prop :=
  ∃ es clock seen c0, w.heap[i]? = some (.mapIter (some b) clock seen c0) ∧ w.heap[b]? = some (.map es clock) ∧ MapRep es clock m ∧ clock ≤ c0 ∧ (leftOf es seen).toList.map (fun e => (e.key, e.val)) = left.map (fun x => (Value.string x.1, x.2))
theorem IterOf.map {w : World} {i b : Nat} {m left : List (ByteArray × Value)} (h : IterOf w i b m left) : MapOf w b m := by
  obtain ⟨es, clock, seen, c0, h1, h2, h3, h4⟩ := h
  exact ⟨es, clock, h2, h3⟩
theorem IterOf.at {w w' : World} {i b : Nat} {m left : List (ByteArray × Value)} (h : IterOf w i b m left) (e : w'.heap[i]? = w.heap[i]?) (e' : w'.heap[b]? = w.heap[b]?) : IterOf w' i b m left := by
  obtain ⟨es, clock, seen, c0, h1, h2, h3, h4⟩ := h
  exact ⟨es, clock, seen, c0, e.trans h1, e'.trans h2, h3, h4⟩
theorem IterOf.lt {w : World} {i b : Nat} {m left : List (ByteArray × Value)} (h : IterOf w i b m left) : i < w.heap.size := by
  obtain ⟨es, clock, seen, c0, h1, h2, h3, h4⟩ := h
  exact (Array.getElem?_eq_some_iff.1 h1).1
theorem filter_one (l : List MapEntry) (seen : Array Nat) (e : MapEntry) (A B : List MapEntry) (hn : (l.map (·.born)).Nodup) (h : l.filter (fun x => !seen.contains x.born) = A ++ e :: B) : l.filter (fun x => !(seen.push e.born).contains x.born) = A ++ B := by
  have h1 : l.filter (fun x => !(seen.push e.born).contains x.born) = (l.filter (fun x => !seen.contains x.born)).filter (fun x => decide (x.born ≠ e.born)) := by
    rw [List.filter_filter]
    refine List.filter_congr fun x _ => ?_
    simp [Bool.and_comm]
  rw [h1, h, List.filter_append, List.filter_cons_of_neg (by simp)]
  have hs : (A ++ e :: B).Sublist l := by rw [← h]; exact List.filter_sublist
  have hn' := (hs.map (·.born)).nodup hn
  rw [List.map_append, List.map_cons] at hn'
  have hAB := List.nodup_append.1 hn'
  rw [List.filter_eq_self.2, List.filter_eq_self.2]
  · intro x hx
    have := (List.nodup_cons.1 hAB.2.1).1
    simp only [ne_eq, decide_not, Bool.not_eq_eq_eq_not, Bool.not_true, decide_eq_false_iff_not]
    exact fun e' => this (by rw [← e']; exact List.mem_map.2 ⟨x, hx, rfl⟩)
  · intro x hx
    simp only [ne_eq, decide_not, Bool.not_eq_eq_eq_not, Bool.not_true, decide_eq_false_iff_not]
    exact fun e' => hAB.2.2 _ (List.mem_map.2 ⟨x, hx, rfl⟩) _ (by simp) e'
section
variable {P : Program} {w : World} {i b : Nat} {m left : List (ByteArray × Value)}
theorem iter_start {mty kt et : TypeId} (hm : P.underlying mty = some (.map kt et)) (h : MapOf w b m) :
    ∃ w', (Instr.range mty (.map (some b))).run P w = .ok (.pointer (some ⟨w.heap.size, 0, none⟩)) w' ∧ IterOf w' w.heap.size b m m ∧ Below w.heap.size w w' ∧ w'.heap.size = w.heap.size + 1 := by
  obtain ⟨es, clock, hb, hr⟩ := h
  have hlt := (Array.getElem?_eq_some_iff.1 hb).1
  refine ⟨w.alloc (.mapIter (some b) clock #[] clock), run_range_map w mty kt et b es clock hm hb, ⟨es, clock, #[], clock, World.alloc_heap_new _ _, (Below.heap_alloc _ _ _ hlt).trans hb, hr, Nat.le_refl _, ?_⟩, (Below.refl _ w).alloc (Nat.le_refl _) _, by simp⟩
  have : (leftOf es #[]).toList = es.toList := by unfold leftOf; simp
  rw [this]; exact hr.ents
theorem iter_next (ty : TypeId) (h : IterOf w i b m left) :
    (left = [] ∧ (Instr.next (.pointer (some ⟨i, 0, none⟩)) false ty).run P w = .ok (.tuple #[.bool false]) w) ∨
    ∃ l1 x l2 w', left = l1 ++ x :: l2 ∧ (Instr.next (.pointer (some ⟨i, 0, none⟩)) false ty).run P w = .ok (.tuple #[.bool true, .string x.1, x.2]) w' ∧ (Instr.entry (.pointer (some ⟨i, 0, none⟩))).run P w' = .ok (.tuple #[.string x.1, x.2]) w' ∧ IterOf w' i b m (l1 ++ l2) ∧ But (· = i) w w' ∧ w'.heap.size = w.heap.size := by
  obtain ⟨es, clock, seen, c0, h1, h2, h3, h4, h5⟩ := h
  have hib : i ≠ b := fun e => by rw [e, h2] at h1; cases h1
  rcases run_next_at (P := P) w ty i b clock c0 seen es clock h1 h2 h3.born h4 with ⟨h0, hrun⟩ | ⟨e, he, w1, hw1, hrun⟩
  · left
    refine ⟨?_, hrun⟩
    have hl := congrArg List.length h5
    simp only [List.length_map, Array.length_toList] at hl
    exact List.eq_nil_of_length_eq_zero (by omega)
  · right
    obtain ⟨A, B, hAB⟩ := List.append_of_mem he
    rw [hAB, List.map_append, List.map_cons] at h5
    obtain ⟨l1, l', hl, e1, e2⟩ := List.map_eq_append_iff.1 h5.symm
    obtain ⟨x, l2, rfl, e3, e4⟩ := List.map_eq_cons_iff.1 e2
    simp only [Prod.mk.injEq] at e3
    have hlt := (Array.getElem?_eq_some_iff.1 h1).1
    have hheap : w1.heap = w.heap := by rcases hw1 with rfl | rfl <;> rfl
    have hi' : (ChangeMaps.setBlock w1 i (.mapIter (some b) clock (seen.push e.born) clock)).heap[i]? = some (.mapIter (some b) clock (seen.push e.born) clock) := by
      simp only [ChangeMaps.setBlock, hheap]; rw [Array.getElem?_setIfInBounds]; simp [hlt]
    have hb' : (ChangeMaps.setBlock w1 i (.mapIter (some b) clock (seen.push e.born) clock)).heap[b]? = some (.map es clock) := by
      simp only [ChangeMaps.setBlock, hheap]; rw [Array.getElem?_setIfInBounds]; simp [hib, h2]
    have hees : e ∈ es.toList := by
      unfold leftOf at he
      rw [Array.toList_filter] at he
      exact (List.mem_filter.1 he).1
    refine ⟨l1, x, l2, _, hl, by rw [e3.1, e3.2]; exact hrun, ?_, ⟨es, clock, _, clock, hi', hb', h3, Nat.le_refl _, ?_⟩, ?_, by simp [ChangeMaps.setBlock, hheap]⟩
    · rw [e3.1, e3.2]; exact run_entry_at _ i b clock seen es clock e hi' hb' hees h3.once
    · unfold leftOf at hAB ⊢
      rw [Array.toList_filter] at hAB ⊢
      rw [filter_one _ _ _ _ _ h3.once hAB, List.map_append, List.map_append, e1, e4]
    · have ht : w1.tape = w.tape ∧ w1.os = w.os ∧ w1.output = w.output := by rcases hw1 with rfl | rfl <;> exact ⟨rfl, rfl, rfl⟩
      refine ⟨ht.2.1, ht.1, ht.2.2, by simp [ChangeMaps.setBlock, hheap], fun k hk hn => ?_⟩
      simp only [ChangeMaps.setBlock, hheap]
      rw [Array.getElem?_setIfInBounds]
      simp [Ne.symm (show k ≠ i from hn)]
end
end Go.WW
/- A drawn region, one of whose operations writes into a block that was there. -/
namespace Go.WW
open Go.RowKit
theorem But.drew {S : Nat → Prop} {a w : World} (h : But S a w) : But S a w.drew := ⟨h.os, h.tape, h.output, h.size, h.block⟩
theorem But.cell {S : Nat → Prop} {w w' : World} (h : But S w w') {b o : Nat} (hb : b < w.heap.size) (hn : ¬ S b) : w'.cell? ⟨b, o, none⟩ = w.cell? ⟨b, o, none⟩ := World.cell?_of_block (a := ⟨b, o, none⟩) (h.block b hb hn)
section
variable {P : Program} {ops : Array Oper} {S : World → Prop} {Q : Act → World → Prop}
def looksN (o : Oper) : Bool := looks o || (match o.op with | .nilCheck _ => true | _ => false)
theorem looksN_value {o : Oper} (h : looksN o = true) (ρ : Operand → Value) (w : World) : (∃ v w', (execOp ρ o).run P w = .ok (.value v) w') ∨ ∃ h w', (execOp ρ o).run P w = .halt h w' := by
  cases hl : looks o
  · obtain ⟨dst, op, type, pos, after, guard⟩ := o
    unfold looksN at h
    rw [hl] at h
    cases op <;> simp at h
    case nilCheck x =>
      simp only [execOp]
      split
      · exact .inr ⟨_, _, rfl⟩
      · exact .inr ⟨_, _, rfl⟩
      · exact .inr ⟨_, _, rfl⟩
      · split
        · exact .inr ⟨_, _, rfl⟩
        · simp only [Sem.run_bind]
          cases (program).run P w with
          | halt h w' => exact .inr ⟨h, w', by simp⟩
          | ok p w1 =>
            dsimp only [Result.andThen]
            cases (nilAhead (p.types.size + Made.depth) _ _ _).run P w1 with
            | halt h w' => exact .inr ⟨h, w', by simp⟩
            | ok c w2 =>
              dsimp only [Result.andThen]
              split
              · exact .inr ⟨_, _, rfl⟩
              · exact .inl ⟨_, _, rfl⟩
        · exact .inl ⟨_, _, rfl⟩
      · exact .inl ⟨_, _, rfl⟩
  · exact looks_value hl ρ w
theorem textN_look {o : Oper} {rest : List Oper} {a : Act} {w : World} (hw : Region.wanted o (yielded ops a.tmps) = true) (hs : looksN o = true)
    (h : ∀ K : Act → Prop, (∀ a', wpText P ops looksN S Q rest a' w → K a') → o.quiet P a S K) : wpText P ops looksN S Q (o :: rest) a w := by
  rw [text_cons, if_pos hw, if_pos hs]
  obtain ⟨v, hv, hh⟩ := h _ (fun _ x => x)
  refine ⟨v, fun w' hw' => ?_, hh⟩
  have := hv w' hw'
  unfold Oper.quietAt at this
  rcases looksN_value (P := P) hs a.eval w' with ⟨u, w'', e⟩ | ⟨x, w'', e⟩
  · rw [e] at this ⊢
    obtain ⟨rfl, rfl⟩ := this
    rfl
  · rw [e] at this
    exact this.elim
theorem textN_act {o : Oper} {rest : List Oper} {a : Act} {w : World} (hw : Region.wanted o (yielded ops a.tmps) = true) (hs : looksN o = false)
    (h : ∀ K : Act → World → Prop, (∀ a' w', S w' → wpText P ops looksN S Q rest a' w' → K a' w') → o.wp P a w K never) : wpText P ops looksN S Q (o :: rest) a w := by
  rw [text_cons, if_pos hw, if_neg (by simp [hs])]
  exact h _ (fun _ _ x y => ⟨x, y⟩)
end
structure LaterB (S : Nat → Prop) (W : World) where
  w : World
  b : But S W w
instance {S : Nat → Prop} {W : World} : Nonempty (LaterB S W) := ⟨⟨W, But.refl _ _⟩⟩
section
variable {S : Nat → Prop} {W : World} (x : LaterB S W) (b o : Nat) (h : b < W.heap.size) (hn : ¬ S b)
include h hn
theorem LaterB.cell : x.w.cell? ⟨b, o, none⟩ = W.cell? ⟨b, o, none⟩ := x.b.cell h hn
theorem LaterB.frozen : x.w.frozen? ⟨b, o, none⟩ = W.frozen? ⟨b, o, none⟩ := by
  have := x.b.block b h hn
  simp [World.frozen?, this]
theorem LaterB.row (n : Nat) : row? x.w b o n = row? W b o n := row?_of_block (x.b.block b h hn) o n
end
attribute [go_sem] LaterB.cell LaterB.frozen LaterB.row
abbrev sinceB (S : Nat → Prop) (w : World) : World → Prop := fun w' => ∃ x : LaterB S w, w' = x.w
theorem wp_region_sinceB {P : Program} {id : Nat} {Q' : Exit → Act → World → Prop} {a : Act} {W w : World} {l : List Oper} (S : Nat → Prop) (hW : But S W w) (hm : P.follows .mixedOrders = true) (hB : textB looksN l.toArray = true)
    (h : wpText P l.toArray looksN (sinceB S W) (fun a' w' => Q' .normal a' w') l a w.drew) : (Code.region id l.toArray true).wp P Q' a w :=
  wp_region_text (sinceB S W) looksN hm hB ⟨⟨w.drew, hW.drew⟩, rfl⟩ h
theorem sinceB_of {S : Nat → Prop} {W w : World} (h : But S W w) : sinceB S W w := ⟨⟨w, h⟩, rfl⟩
def one (p : Nat) : Nat → Prop := fun k => k = p
theorem not_one {p k : Nat} (h : k ≠ p) : ¬ one p k := h
end Go.WW
/- A region that draws its order, walked in the order of the text, in which some operations read what others write: these are ordered. Turned from Text.lt. -/
namespace Go.WW.T3
open Go.RowKit Go.WW
section
variable {P : Program} {ops : Array Oper} {S : World → Prop} {kd : Oper → Nat} {Q : Act → World → Prop}
def LV (P : Program) (S : World → Prop) (kd : Oper → Nat) (w : World) (o : Oper) (ρ : Operand → Value) (v : Value) : Prop :=
  if kd o = 0 then ∀ w', S w' → (execOp ρ o).run P w' = .ok (.value v) w' else (execOp ρ o).run P w = .ok (.value v) w
theorem LV.here {P : Program} {S : World → Prop} {kd : Oper → Nat} {w : World} {o : Oper} {ρ : Operand → Value} {v : Value} (h : LV P S kd w o ρ v) (hS : S w) : (execOp ρ o).run P w = .ok (.value v) w := by
  unfold LV at h
  split at h
  · exact h w hS
  · exact h
theorem LV.any {P : Program} {S : World → Prop} {kd : Oper → Nat} {w w1 : World} {o : Oper} {ρ : Operand → Value} {v : Value} (h : LV P S kd w o ρ v) (h0 : kd o = 0) : LV P S kd w1 o ρ v := by
  unfold LV at *
  rw [if_pos h0] at *
  exact h
def wpText (P : Program) (ops : Array Oper) (kd : Oper → Nat) (S : World → Prop) (Q : Act → World → Prop) : List Oper → Act → World → Prop
  | [], a, w => Q a w
  | o :: rest, a, w =>
    if Region.wanted o (yielded ops a.tmps) then
      if kd o < 2 then ∃ v, LV P S kd w o a.eval v ∧ wpText P ops kd S Q rest (a.put o.dst v) w
      else o.wp P a w (fun a' w' => S w' ∧ wpText P ops kd S Q rest a' w') never
    else wpText P ops kd S Q rest (a.put o.dst undef) w
theorem text_cons (o : Oper) (rest : List Oper) (a : Act) (w : World) : wpText P ops kd S Q (o :: rest) a w =
    (if Region.wanted o (yielded ops a.tmps) then
      if kd o < 2 then ∃ v, LV P S kd w o a.eval v ∧ wpText P ops kd S Q rest (a.put o.dst v) w
      else o.wp P a w (fun a' w' => S w' ∧ wpText P ops kd S Q rest a' w') never
    else wpText P ops kd S Q rest (a.put o.dst undef) w) := rfl
theorem text_mono {l : List Oper} {Q' : Act → World → Prop} (h : ∀ a w, Q a w → Q' a w) : ∀ {a w}, wpText P ops kd S Q l a w → wpText P ops kd S Q' l a w := by
  induction l with
  | nil => exact fun hh => h _ _ hh
  | cons o l ih =>
    intro a w hh
    rw [text_cons] at *
    split
    · rename_i hw
      simp only [hw, if_true] at hh
      split
      · rename_i hs
        simp only [hs, if_true] at hh
        obtain ⟨v, h1, h2⟩ := hh
        exact ⟨v, h1, ih h2⟩
      · rename_i hs
        simp only [hs] at hh
        exact Oper.wp_mono (fun a' w' ⟨x, y⟩ => ⟨x, ih y⟩) hh
    · rename_i hw
      simp only [hw] at hh
      exact ih hh
theorem cons_mono {o : Oper} {M M' : List Oper} {a : Act} {w : World} (hS : S w) (h : ∀ a' w', S w' → wpText P ops kd S Q M a' w' → wpText P ops kd S Q M' a' w')
    (hh : wpText P ops kd S Q (o :: M) a w) : wpText P ops kd S Q (o :: M') a w := by
  rw [text_cons] at *
  split
  · rename_i hw
    simp only [hw, if_true] at hh
    split
    · rename_i hs
      simp only [hs, if_true] at hh
      obtain ⟨v, h1, h2⟩ := hh
      exact ⟨v, h1, h _ _ hS h2⟩
    · rename_i hs
      simp only [hs] at hh
      exact Oper.wp_mono (fun a' w' ⟨x, y⟩ => ⟨x, h _ _ x y⟩) hh
  · rename_i hw
    simp only [hw] at hh
    exact h _ _ hS hh
def pairOk (kd : Oper → Nat) (x o : Oper) : Bool := decide (kd x = 0) || decide (kd o = 0) || (decide (kd x < 2) && decide (kd o < 2))
theorem text_swap {x o : Oper} {L : List Oper} {a : Act} {w : World} (hS : S w) (hx : ∀ cs b, x.op ≠ .select cs b) (ho : ∀ cs b, o.op ≠ .select cs b)
    (hap : x.apart ops o = true) (hst : pairOk kd x o = true) (h : wpText P ops kd S Q (x :: o :: L) a w) : wpText P ops kd S Q (o :: x :: L) a w := by
  obtain ⟨h1, h2, h3⟩ := Oper.apart_spec hap
  have h2' : ∀ d, o.dst = some d → x.dst ≠ some d := fun d hd hxd => h2 d hxd hd
  have wo : ∀ (b : Act) v, Region.wanted o (yielded ops (b.put x.dst v).tmps) = Region.wanted o (yielded ops b.tmps) := fun b v => wanted_put o b x.dst v h1
  have wx : ∀ (b : Act) v, Region.wanted x (yielded ops (b.put o.dst v).tmps) = Region.wanted x (yielded ops b.tmps) := fun b v => wanted_put x b o.dst v h3
  have eo : ∀ (w : World) (b : Act) v u, LV P S kd w o (b.put x.dst v).eval u = LV P S kd w o b.eval u := fun w b v u => by unfold LV; rw [execOp_put o ho b x.dst v h1]
  have ex : ∀ (w : World) (b : Act) v u, LV P S kd w x (b.put o.dst v).eval u = LV P S kd w x b.eval u := fun w b v u => by unfold LV; rw [execOp_put x hx b o.dst v h3]
  have hc : ∀ (b : Act) v u, (b.put x.dst v).put o.dst u = (b.put o.dst u).put x.dst v := fun b v u => Act.put_comm b v u h2
  have hk : (kd x = 0 ∨ kd o = 0) ∨ kd x < 2 ∧ kd o < 2 := by simpa [pairOk] using hst
  rw [text_cons] at h ⊢
  by_cases hwx : Region.wanted x (yielded ops a.tmps) = true
  · rw [if_pos hwx] at h
    by_cases hsx : kd x < 2
    · rw [if_pos hsx] at h
      obtain ⟨v, hv, h⟩ := h
      rw [text_cons, wo] at h
      by_cases hwo : Region.wanted o (yielded ops a.tmps) = true
      · rw [if_pos hwo] at h ⊢
        by_cases hso : kd o < 2
        · rw [if_pos hso] at h ⊢
          obtain ⟨u, hu, h⟩ := h
          rw [eo] at hu
          refine ⟨u, hu, ?_⟩
          rw [text_cons, wx, if_pos hwx, if_pos hsx]
          exact ⟨v, by rw [ex]; exact hv, by rw [← hc]; exact h⟩
        · rw [if_neg hso] at h ⊢
          have h0 : kd x = 0 := by omega
          have h' := wp_form ((wp_put ho h1 h2).1 h)
          refine Oper.wp_mono ?_ h'
          rintro a' w' ⟨⟨u, ds, rfl⟩, hS', h⟩
          refine ⟨hS', ?_⟩
          rw [text_cons, wx, show Region.wanted x (yielded ops ({ a with defers := ds } : Act).tmps) = true from hwx, if_pos rfl, if_pos hsx]
          exact ⟨v, by rw [ex]; exact hv.any h0, h⟩
      · rw [if_neg hwo] at h ⊢
        rw [text_cons, wx, if_pos hwx, if_pos hsx]
        exact ⟨v, by rw [ex]; exact hv, by rw [← hc]; exact h⟩
    · have h0 : kd o = 0 := by omega
      have hso : kd o < 2 := by omega
      rw [if_neg hsx] at h
      have h' := wp_form h
      by_cases hwo : Region.wanted o (yielded ops a.tmps) = true
      · rw [if_pos hwo, if_pos hso]
        have key : ∀ a' w', ((∃ u ds, a' = ({ a with defers := ds } : Act).put x.dst u) ∧ S w' ∧ wpText P ops kd S Q (o :: L) a' w') →
            ∃ v, LV P S kd w o a.eval v ∧ S w' ∧ wpText P ops kd S Q L (a'.put o.dst v) w' := by
          rintro a' w' ⟨⟨u, ds, rfl⟩, hS', hh⟩
          rw [text_cons, wo, show Region.wanted o (yielded ops ({ a with defers := ds } : Act).tmps) = true from hwo, if_pos rfl, if_pos hso] at hh
          obtain ⟨v, hv, hh⟩ := hh
          rw [eo] at hv
          exact ⟨v, hv.any h0, hS', hh⟩
        obtain ⟨a1, w1, h1'⟩ := wp_exists h'
        obtain ⟨v, hv, _⟩ := key _ _ h1'
        refine ⟨v, hv, ?_⟩
        rw [text_cons, wx, if_pos hwx, if_neg hsx, wp_put hx h3 h2']
        refine Oper.wp_mono ?_ h'
        intro a' w' hh
        obtain ⟨v', hv', hS', hh⟩ := key _ _ hh
        have e : v' = v := by
          have := (hv'.here hS).symm.trans (hv.here hS)
          simpa using this
        subst e
        exact ⟨hS', hh⟩
      · rw [if_neg hwo, text_cons, wx, if_pos hwx, if_neg hsx, wp_put hx h3 h2']
        refine Oper.wp_mono ?_ h'
        rintro a' w' ⟨⟨u, ds, rfl⟩, hS', hh⟩
        rw [text_cons, wo, show Region.wanted o (yielded ops ({ a with defers := ds } : Act).tmps) = false from by simpa using hwo, if_neg (by simp)] at hh
        exact ⟨hS', hh⟩
  · rw [if_neg hwx] at h
    rw [text_cons, wo] at h
    by_cases hwo : Region.wanted o (yielded ops a.tmps) = true
    · rw [if_pos hwo] at h ⊢
      by_cases hso : kd o < 2
      · rw [if_pos hso] at h ⊢
        obtain ⟨u, hu, h⟩ := h
        rw [eo] at hu
        refine ⟨u, hu, ?_⟩
        rw [text_cons, wx, if_neg hwx, ← hc]
        exact h
      · rw [if_neg hso] at h ⊢
        have h' := wp_form ((wp_put ho h1 h2).1 h)
        refine Oper.wp_mono ?_ h'
        rintro a' w' ⟨⟨u, ds, rfl⟩, hS', h⟩
        refine ⟨hS', ?_⟩
        rw [text_cons, wx, show Region.wanted x (yielded ops ({ a with defers := ds } : Act).tmps) = false from by simpa using hwx, if_neg (by simp)]
        exact h
    · rw [if_neg hwo] at h ⊢
      rw [text_cons, wx, if_neg hwx, ← hc]
      exact h
theorem text_front {o : Oper} {L2 : List Oper} (ho : ∀ cs b, o.op ≠ .select cs b) : ∀ (L1 : List Oper), (∀ x ∈ L1, (∀ cs b, x.op ≠ .select cs b) ∧ x.apart ops o = true ∧ pairOk kd x o = true) →
    ∀ (a : Act) (w : World), S w → wpText P ops kd S Q (L1 ++ o :: L2) a w → wpText P ops kd S Q (o :: (L1 ++ L2)) a w
  | [], _, _, _, _, h => h
  | x :: L1, hall, a, w, hS, h => by
    have hx := hall x (by simp)
    refine text_swap hS hx.1 ho hx.2.1 hx.2.2 ?_
    exact cons_mono hS (fun a' w' hS' hh => text_front ho L1 (fun y hy => hall y (by simp [hy])) a' w' hS' hh) h
abbrev lk (kd : Oper → Nat) : Oper → Bool := fun o => decide (kd o < 2)
def textB (kd : Oper → Nat) (ops : Array Oper) : Bool :=
  let m := effPreds (lk kd) ops
  Region.noSelect ops && (List.range ops.size).all fun j => match ops[j]? with
    | none => true
    | some oj =>
      oj.after.toList.all (fun e => !Region.binds .any e || decide (e.on < j)) &&
      (m.getD j []).all (fun i => oj.after.toList.any fun e => Region.binds .any e && (e.on == i || (m.getD e.on []).contains i)) &&
      (List.range j).all fun i => match ops[i]? with
        | none => true
        | some oi => oj.after.toList.any (fun e => Region.binds .any e && e.on == i) || (oi.apart ops oj && (pairOk kd oi oj || (m.getD j []).contains i))
structure TextOk (kd : Oper → Nat) (ops : Array Oper) (m : Array (List Nat)) : Prop where
  sel : Region.noSelect ops = true
  back : ∀ j oj, ops[j]? = some oj → ∀ e ∈ oj.after, Region.binds .any e = true → e.on < j
  pred : ∀ j oj, ops[j]? = some oj → ∀ i ∈ m.getD j [], ∃ e ∈ oj.after, Region.binds .any e = true ∧ (e.on = i ∨ i ∈ m.getD e.on [])
  pair : ∀ j oj, ops[j]? = some oj → ∀ i, i < j → ∀ oi, ops[i]? = some oi → (∃ e ∈ oj.after, Region.binds .any e = true ∧ e.on = i) ∨ (oi.apart ops oj = true ∧ (pairOk kd oi oj = true ∨ i ∈ m.getD j []))
theorem textB_ok (h : textB kd ops = true) : TextOk kd ops (effPreds (lk kd) ops) := by
  unfold textB at h
  simp only [Bool.and_eq_true, List.all_eq_true, List.mem_range] at h
  obtain ⟨hs, h⟩ := h
  have lt : ∀ {j : Nat} {oj : Oper}, ops[j]? = some oj → j < ops.size := fun hj => (Array.getElem?_eq_some_iff.1 hj).1
  refine ⟨hs, fun j oj hj => ?_, fun j oj hj => ?_, fun j oj hj => ?_⟩
  all_goals
    have hh := h j (lt hj)
    simp only [hj, Bool.and_eq_true, List.all_eq_true, List.mem_range] at hh
    obtain ⟨⟨h1, h2⟩, h3⟩ := hh
  · intro e he hb
    have := h1 e (by simpa using he)
    simpa [hb] using this
  · intro i hi
    have := h2 i hi
    simp only [List.any_eq_true, Bool.and_eq_true, Bool.or_eq_true, beq_iff_eq, List.contains_iff_mem] at this
    obtain ⟨e, he, hb, hor⟩ := this
    exact ⟨e, by simpa using he, hb, hor⟩
  · intro i hi oi ho
    have := h3 i hi
    simp only [ho, Bool.or_eq_true, List.any_eq_true, Bool.and_eq_true, beq_iff_eq, List.contains_iff_mem] at this
    rcases this with ⟨e, he, hb, hor⟩ | ⟨ha, hor⟩
    · exact .inl ⟨e, by simpa using he, hb, hor⟩
    · exact .inr ⟨ha, hor⟩
theorem preds_listed {m : Array (List Nat)} (hok : TextOk kd ops m) {listed : Array Bool}
    (hdown : ∀ k o, ops[k]? = some o → listed.getD k false = true → ∀ e ∈ o.after, Region.binds .any e = true → listed.getD e.on false = true) :
    ∀ (j : Nat) (oj : Oper), ops[j]? = some oj → (∀ e ∈ oj.after, Region.binds .any e = true → listed.getD e.on false = true) → ∀ i ∈ m.getD j [], listed.getD i false = true := by
  intro j
  induction j using Nat.strongRecOn with
  | _ j ih =>
    intro oj hj hall i hi
    obtain ⟨e, he, hb, hor⟩ := hok.pred j oj hj i hi
    rcases hor with rfl | hor
    · exact hall e he hb
    · have hlt := hok.back j oj hj e he hb
      have hjs : j < ops.size := (Array.getElem?_eq_some_iff.1 hj).1
      have hoe : ops[e.on]? = some (ops[e.on]'(by omega)) := by simp
      exact ih e.on hlt _ hoe (hdown _ _ hoe (hall e he hb)) i hor
theorem text_any {m : Array (List Nat)} (hok : TextOk kd ops m) {Q' : Exit → Act → World → Prop} (hQ : ∀ a w, Q a w → Q' .normal a w) :
    ∀ (n : Nat) (L : List Nat) (listed : Array Bool) (a : Act) (w : World), L.length = n → L.Pairwise (· < ·) → listed.size = ops.size → (∀ j, j ∈ L ↔ j < ops.size ∧ listed.getD j true = false) →
      (∀ k o, ops[k]? = some o → listed.getD k false = true → ∀ e ∈ o.after, Region.binds .any e = true → listed.getD e.on false = true) →
      S w → wpText P ops kd S Q (L.filterMap (ops[·]?)) a w → wpAny P .any ops Q' n listed a w := by
  intro n
  induction n with
  | zero =>
    intro L listed a w hn _ hsz hL _ _ h
    have : L = [] := List.eq_nil_of_length_eq_zero hn
    subst this
    refine ⟨?_, hQ _ _ h⟩
    cases hr : Region.ready .any ops listed with
    | nil => rfl
    | cons i r =>
      have hi : i ∈ Region.ready .any ops listed := by rw [hr]; simp
      obtain ⟨h0, o, ho, _⟩ := mem_ready.1 hi
      have := (hL i).2 ⟨(Array.getElem?_eq_some_iff.1 ho).1, h0⟩
      cases this
  | succ n ih =>
    intro L listed a w hn hsort hsz hL hdown hS h
    refine ⟨fun hr => ?_, fun i hi => ?_⟩
    · exfalso
      cases L with
      | nil => simp at hn
      | cons j L =>
        obtain ⟨hj, hjl⟩ := (hL j).1 (by simp)
        have hoj : ops[j]? = some ops[j] := by simp [hj]
        have : j ∈ Region.ready .any ops listed := by
          refine mem_ready.2 ⟨hjl, _, hoj, fun e he hb => ?_⟩
          have hlt := hok.back j _ hoj e he hb
          have hnot : e.on ∉ j :: L := by
            intro hmem
            rcases List.mem_cons.1 hmem with h1 | h1
            · omega
            · have := (List.pairwise_cons.1 hsort).1 _ h1; omega
          have h2 : listed.getD e.on true ≠ false := fun hf => hnot ((hL e.on).2 ⟨by omega, hf⟩)
          have hes : e.on < listed.size := by omega
          simp [hes] at h2 ⊢; exact h2
        rw [hr] at this; cases this
    · obtain ⟨h0, o, ho, hall⟩ := mem_ready.1 hi
      have his : i < ops.size := (Array.getElem?_eq_some_iff.1 ho).1
      have hiL : i ∈ L := (hL i).2 ⟨his, h0⟩
      obtain ⟨L1, L2, rfl⟩ := List.append_of_mem hiL
      have hsort' := List.pairwise_append.1 hsort
      have hlt1 : ∀ x ∈ L1, x < i := fun x hx => hsort'.2.2 x hx i (by simp)
      have hgt2 : ∀ x ∈ L2, i < x := fun x hx => (List.pairwise_cons.1 hsort'.2.1).1 x hx
      rw [List.filterMap_append, List.filterMap_cons_some ho] at h
      have hfront := text_front (P := P) (ops := ops) (S := S) (kd := kd) (Q := Q) (Region.noSelect_spec hok.sel i o · · ho) (L1.filterMap (ops[·]?)) (fun x hx => by
        obtain ⟨k, hk, hox⟩ := List.mem_filterMap.1 hx
        have hkl := ((hL k).1 (by simp [hk])).2
        have hnl : ¬ listed.getD k false = true := fun hf => by rw [getD_true_of_false hf] at hkl; cases hkl
        refine ⟨(Region.noSelect_spec hok.sel k x · · hox), ?_⟩
        rcases hok.pair i o ho k (hlt1 k hk) x hox with ⟨e, he, hb, rfl⟩ | ⟨hap, hor⟩
        · exact absurd (hall e he hb) hnl
        · refine ⟨hap, ?_⟩
          rcases hor with h1 | h1
          · exact h1
          · exact absurd (preds_listed hok hdown i o ho hall k h1) hnl) a w hS h
      have hrest : ∀ a' w', S w' → wpText P ops kd S Q (L1.filterMap (ops[·]?) ++ L2.filterMap (ops[·]?)) a' w' → wpAny P .any ops Q' n (listed.setIfInBounds i true) a' w' := by
        intro a' w' hS' hh
        rw [← List.filterMap_append] at hh
        refine ih (L1 ++ L2) (listed.setIfInBounds i true) a' w' ?_ ?_ (by simpa using hsz) ?_ ?_ hS' hh
        · simp at hn ⊢; omega
        · exact List.pairwise_append.2 ⟨hsort'.1, (List.pairwise_cons.1 hsort'.2.1).2, fun x hx y hy => hsort'.2.2 x hx y (by simp [hy])⟩
        · intro j
          by_cases hji : j = i
          · subst hji
            constructor
            · intro hm
              exfalso
              rcases List.mem_append.1 hm with h1 | h1
              · have := hlt1 _ h1; omega
              · have := hgt2 _ h1; omega
            · rintro ⟨_, hf⟩
              have : j < listed.size := by omega
              simp [this] at hf
          · rw [getD_set_ne true (Ne.symm hji), ← hL j]
            simp [hji]
        · intro k ok hk hkl e he hb
          by_cases hki : k = i
          · subst hki
            rw [ho] at hk; cases hk
            exact getD_set_true (hall e he hb)
          · rw [getD_set_ne false (Ne.symm hki)] at hkl
            exact getD_set_true (hdown k ok hk hkl e he hb)
      unfold wpOp
      simp only [ho]
      rw [text_cons] at hfront
      split
      · rename_i hw
        rw [if_pos hw] at hfront
        refine .inl ?_
        by_cases hs : kd o < 2
        · rw [if_pos hs] at hfront
          obtain ⟨v, hv, hh⟩ := hfront
          unfold Oper.wp
          rw [hv.here hS]
          exact hrest _ _ hS hh
        · rw [if_neg hs] at hfront
          exact wp_mono_Q (Oper.wp_mono (fun a' w' hh => hrest a' w' hh.1 hh.2) hfront)
      · rename_i hw
        rw [if_neg hw] at hfront
        exact hrest _ _ hS hfront
theorem wp_region_text {id : Nat} {Q' : Exit → Act → World → Prop} {a : Act} {w : World} {l : List Oper} (S : World → Prop) (kd : Oper → Nat) (hm : P.follows .mixedOrders = true) (hB : textB kd l.toArray = true)
    (hS : S w.drew) (h : wpText P l.toArray kd S (fun a' w' => Q' .normal a' w') l a w.drew) : (Code.region id l.toArray true).wp P Q' a w := by
  refine wp_region_any hm ?_
  have hfm : (List.range l.toArray.size).filterMap (l.toArray[·]?) = l := by
    apply List.ext_getElem?
    intro i
    have : ∀ n, (List.range n).filterMap (fun i => l.toArray[i]?) = l.take n := by
      intro n
      induction n with
      | zero => simp
      | succ n ih =>
        rw [List.range_succ, List.filterMap_append, ih]
        by_cases hn : n < l.length
        · rw [List.take_succ_eq_append_getElem hn]; simp [hn]
        · simp [hn, List.take_of_length_le (show l.length ≤ n by omega), List.take_of_length_le (show l.length ≤ n + 1 by omega)]
    rw [this]; simp
  have := text_any (P := P) (S := S) (Q := fun a' w' => Q' .normal a' w') (textB_ok hB) (Q' := Q') (fun _ _ h => h) l.toArray.size (List.range l.toArray.size) (Array.replicate l.toArray.size false) a w.drew
    (by simp) List.pairwise_lt_range (by simp) (by intro j; simp; intro h; simp [h]) (by intro k o hk hkl; exfalso; rw [Array.getD_eq_getD_getElem?, Array.getElem?_replicate] at hkl; split at hkl <;> simp at hkl) hS (by rw [hfm]; exact h)
  exact this
/-! ### The walk's steps -/
theorem text_nil {a : Act} {w : World} (h : Q a w) : wpText P ops kd S Q [] a w := h
theorem text_skip {o : Oper} {rest : List Oper} {a : Act} {w : World} (hw : Region.wanted o (yielded ops a.tmps) = false) (h : wpText P ops kd S Q rest (a.put o.dst undef) w) : wpText P ops kd S Q (o :: rest) a w := by
  rw [text_cons, if_neg (by simp [hw])]; exact h
def kinds (o : Oper) : Nat :=
  match o.op with
  | .load .. => 1
  | _ => if looks o then 0 else 2
theorem kinds_looks {o : Oper} (h : kinds o < 2) : looks o = true := by
  unfold kinds at h
  split at h
  · rename_i h'; unfold looks; rw [h']
  · split at h
    · assumption
    · omega
theorem text_look {o : Oper} {rest : List Oper} {a : Act} {w : World} (hw : Region.wanted o (yielded ops a.tmps) = true) (hs : kinds o = 0)
    (h : ∀ K : Act → Prop, (∀ a', wpText P ops kinds S Q rest a' w → K a') → o.quiet P a S K) : wpText P ops kinds S Q (o :: rest) a w := by
  rw [text_cons, if_pos hw, if_pos (by omega)]
  obtain ⟨v, hv, hh⟩ := h _ (fun _ x => x)
  refine ⟨v, ?_, hh⟩
  unfold LV
  rw [if_pos hs]
  intro w' hw'
  have := hv w' hw'
  unfold Oper.quietAt at this
  rcases looks_value (P := P) (kinds_looks (o := o) (by omega)) a.eval w' with ⟨u, w'', e⟩ | ⟨x, w'', e⟩
  · rw [e] at this ⊢
    obtain ⟨rfl, rfl⟩ := this
    rfl
  · rw [e] at this
    exact this.elim
theorem text_read {o : Oper} {rest : List Oper} {a : Act} {w : World} (hw : Region.wanted o (yielded ops a.tmps) = true) (hs : kinds o = 1)
    (h : ∀ K : Act → World → Prop, (∀ a', wpText P ops kinds S Q rest a' w → K a' w) → o.wp P a w K never) : wpText P ops kinds S Q (o :: rest) a w := by
  rw [text_cons, if_pos hw, if_pos (by omega)]
  have h' := h (fun a' w' => w' = w ∧ wpText P ops kinds S Q rest a' w) (fun _ x => ⟨rfl, x⟩)
  unfold Oper.wp at h'
  rcases looks_value (P := P) (kinds_looks (o := o) (by omega)) a.eval w with ⟨u, w'', e⟩ | ⟨x, w'', e⟩
  · rw [e] at h'
    obtain ⟨rfl, hh⟩ := h'
    refine ⟨u, ?_, hh⟩
    unfold LV
    rw [if_neg (by omega)]
    exact e
  · rw [e] at h'
    cases x <;> simp only [Oper.upon, never] at h'
theorem text_act {o : Oper} {rest : List Oper} {a : Act} {w : World} (hw : Region.wanted o (yielded ops a.tmps) = true) (hs : kinds o = 2)
    (h : ∀ K : Act → World → Prop, (∀ a' w', S w' → wpText P ops kinds S Q rest a' w' → K a' w') → o.wp P a w K never) : wpText P ops kinds S Q (o :: rest) a w := by
  rw [text_cons, if_pos hw, if_neg (by omega)]
  exact h _ (fun _ _ x y => ⟨x, y⟩)
end
theorem wp_region_sinceR {P : Program} {id : Nat} {Q' : Exit → Act → World → Prop} {a : Act} {W w : World} {l : List Oper} (S : Nat → Prop) (hW : But S W w) (hm : P.follows .mixedOrders = true) (hB : textB kinds l.toArray = true)
    (h : wpText P l.toArray kinds (sinceB S W) (fun a' w' => Q' .normal a' w') l a w.drew) : (Code.region id l.toArray true).wp P Q' a w :=
  wp_region_text (sinceB S W) kinds hm hB ⟨⟨w.drew, hW.drew⟩, rfl⟩ h
end Go.WW.T3
