/- The order of principals, in plain terms. -/
import Derived.Test.YthbialpbkpiekaaGreatDoorXA
import Derived.Carry
import Derived.WideMake
import Derived.RangeFuncOwn
import Derived.Maps.RangeRun
namespace Go.WW
/-- A comparison by which any two that are not the same have an order. -/
structure TotalCmp {α : Type} (c : α → α → Int) : Prop where
  zero : ∀ a b, c a b = 0 ↔ a = b
  anti : ∀ a b, c b a = - c a b
  trans : ∀ a b d, c a b < 0 → c b d < 0 → c a d < 0
theorem bl_irrefl : ∀ l : List UInt8, Op.bytesLess l l = false
  | [] => rfl
  | a :: l => by simp [Op.bytesLess, bl_irrefl l]
theorem bl_total : ∀ a b : List UInt8, Op.bytesLess a b = false → Op.bytesLess b a = false → a = b
  | [], [], _, _ => rfl
  | [], _ :: _, h, _ => by simp [Op.bytesLess] at h
  | _ :: _, [], _, h => by simp [Op.bytesLess] at h
  | a :: x, b :: y, h, h' => by
    simp only [Op.bytesLess, Bool.or_eq_false_iff, decide_eq_false_iff_not, Bool.and_eq_false_iff] at h h'
    have e : a = b := UInt8.le_antisymm (UInt8.not_lt.1 h'.1) (UInt8.not_lt.1 h.1)
    subst e
    have h1 : Op.bytesLess x y = false := by rcases h.2 with h | h; simp at h; exact h
    have h2 : Op.bytesLess y x = false := by rcases h'.2 with h | h; simp at h; exact h
    rw [bl_total x y h1 h2]
theorem bl_trans : ∀ a b d : List UInt8, Op.bytesLess a b = true → Op.bytesLess b d = true → Op.bytesLess a d = true
  | _, [], _, h, _ => by simp [Op.bytesLess] at h
  | _, _ :: _, [], _, h => by simp [Op.bytesLess] at h
  | [], _ :: _, _ :: _, _, _ => rfl
  | a :: x, b :: y, d :: z, h, h' => by
    simp only [Op.bytesLess, Bool.or_eq_true, decide_eq_true_eq, Bool.and_eq_true, beq_iff_eq] at h h' ⊢
    rcases h with h | ⟨rfl, h⟩
    · rcases h' with h' | ⟨rfl, h'⟩
      · exact .inl (UInt8.lt_trans h h')
      · exact .inl h
    · rcases h' with h' | ⟨rfl, h'⟩
      · exact .inl h'
      · exact .inr ⟨rfl, bl_trans x y z h h'⟩
/-- The order of two strings, as the library numbers it. -/
def cmpT (a b : ByteArray) : Int := if Op.bytesLess a.toList b.toList then -1 else if Op.bytesLess b.toList a.toList then 1 else 0
theorem toList_inj {a b : ByteArray} (h : a.toList = b.toList) : a = b := by
  rw [ByteArray.toList_eq, ByteArray.toList_eq] at h; exact WideShapes.bytes_inj h
theorem cmpT_total : TotalCmp cmpT where
  zero a b := by
    unfold cmpT
    constructor
    · intro h
      split at h
      · omega
      · split at h
        · omega
        · rename_i h1 h2
          exact toList_inj (bl_total _ _ (by simpa using h1) (by simpa using h2))
    · rintro rfl; simp [bl_irrefl]
  anti a b := by
    unfold cmpT
    cases h1 : Op.bytesLess a.toList b.toList <;> cases h2 : Op.bytesLess b.toList a.toList <;> simp
    have := bl_trans _ _ _ h1 h2
    rw [bl_irrefl] at this; cases this
  trans a b d h1 h2 := by
    unfold cmpT at *
    have e1 : Op.bytesLess a.toList b.toList = true := by
      cases h : Op.bytesLess a.toList b.toList
      · rw [h] at h1; cases h' : Op.bytesLess b.toList a.toList <;> rw [h'] at h1 <;> simp at h1
      · rfl
    have e2 : Op.bytesLess b.toList d.toList = true := by
      cases h : Op.bytesLess b.toList d.toList
      · rw [h] at h2; cases h' : Op.bytesLess d.toList b.toList <;> rw [h'] at h2 <;> simp at h2
      · rfl
    rw [bl_trans _ _ _ e1 e2]; simp
/-- The order of two lists, by their first elements that differ. -/
def cmpL {α : Type} (c : α → α → Int) : List α → List α → Int
  | [], [] => 0
  | [], _ :: _ => -1
  | _ :: _, [] => 1
  | a :: x, b :: y => if c a b = 0 then cmpL c x y else c a b
theorem cmpL_total {α : Type} {c : α → α → Int} (h : TotalCmp c) : TotalCmp (cmpL c) where
  zero a := by
    induction a with
    | nil => intro b; cases b <;> simp [cmpL]
    | cons a x ih =>
      intro b
      cases b with
      | nil => simp [cmpL]
      | cons b y =>
        unfold cmpL
        by_cases e : c a b = 0
        · rw [if_pos e, ih]; rw [h.zero] at e; simp [e]
        · rw [if_neg e]
          constructor
          · intro h'; exact absurd h' e
          · intro h'; injection h' with h1 h2; exact absurd ((h.zero a b).2 h1) e
  anti a := by
    induction a with
    | nil => intro b; cases b <;> simp [cmpL]
    | cons a x ih =>
      intro b
      cases b with
      | nil => simp [cmpL]
      | cons b y =>
        unfold cmpL
        rw [h.anti a b]
        by_cases e : c a b = 0
        · rw [if_pos e, if_pos (by omega), ih]
        · rw [if_neg e, if_neg (by omega)]
  trans a := by
    induction a with
    | nil => intro b d; cases b <;> cases d <;> simp [cmpL]
    | cons a x ih =>
      intro b d
      cases b with
      | nil => simp [cmpL]
      | cons b y =>
        cases d with
        | nil => intro _ h2; simp [cmpL] at h2
        | cons d z =>
          unfold cmpL
          by_cases e : c a b = 0
          · rw [if_pos e]
            rw [h.zero] at e; subst e
            by_cases e2 : c a d = 0
            · rw [if_pos e2, if_pos e2]; exact ih y z
            · rw [if_neg e2, if_neg e2]; intro _ h2; exact h2
          · rw [if_neg e]
            by_cases e2 : c b d = 0
            · rw [if_pos e2]
              rw [h.zero] at e2; subst e2
              rw [if_neg e]; intro h1 _; exact h1
            · rw [if_neg e2]
              intro h1 h2
              have h3 := h.trans _ _ _ h1 h2
              rw [if_neg (by omega)]; exact h3
def cmpParts : List ByteArray → List ByteArray → Int := cmpL cmpT
/-- The order of two principals. -/
def cmpPrin (p q : Prin) : Int := if cmpT p.realm q.realm = 0 then cmpParts p.parts q.parts else cmpT p.realm q.realm
theorem cmpPrin_total : TotalCmp cmpPrin where
  zero p q := by
    have h1 := cmpT_total.zero p.realm q.realm
    have h2 := (cmpL_total cmpT_total).zero p.parts q.parts
    unfold cmpPrin
    by_cases e : cmpT p.realm q.realm = 0
    · rw [if_pos e]; show cmpL cmpT p.parts q.parts = 0 ↔ _
      rw [h2]
      rw [h1] at e
      cases p; cases q; simp_all
    · rw [if_neg e]
      constructor
      · intro h; exact absurd h e
      · rintro rfl; exact absurd (h1.2 rfl) e
  anti p q := by
    unfold cmpPrin
    rw [cmpT_total.anti p.realm q.realm]
    by_cases e : cmpT p.realm q.realm = 0
    · rw [if_pos e, if_pos (by omega)]; exact (cmpL_total cmpT_total).anti _ _
    · rw [if_neg e, if_neg (by omega)]
  trans p q t := by
    unfold cmpPrin
    by_cases e : cmpT p.realm q.realm = 0
    · rw [if_pos e]
      rw [cmpT_total.zero] at e; rw [e]
      by_cases e2 : cmpT q.realm t.realm = 0
      · rw [if_pos e2, if_pos e2]; exact (cmpL_total cmpT_total).trans _ _ _
      · rw [if_neg e2, if_neg e2]; intro _ h; exact h
    · rw [if_neg e]
      by_cases e2 : cmpT q.realm t.realm = 0
      · rw [if_pos e2]
        rw [cmpT_total.zero] at e2; rw [← e2, if_neg e]
        intro h _; exact h
      · rw [if_neg e2]
        intro h1 h2
        have h3 := cmpT_total.trans _ _ _ h1 h2
        rw [if_neg (by omega)]; exact h3
end Go.WW
/- Lists in order, in plain terms: a sorted list is one, whatever the order in which its elements came. -/
namespace Go.WW
section
variable {α β : Type} {c : β → β → Int} (k : α → β)
/-- Strictly in order by a key. -/
def Sorted (c : β → β → Int) (k : α → β) (l : List α) : Prop := l.Pairwise fun a b => c (k a) (k b) < 0
/-- A further element in its place. -/
def insertBy (c : β → β → Int) (k : α → β) (e : α) : List α → List α
  | [] => [e]
  | d :: l => if c (k e) (k d) < 0 then e :: d :: l else d :: insertBy c k e l
theorem insertBy_perm (e : α) : ∀ l : List α, (insertBy c k e l).Perm (e :: l)
  | [] => List.Perm.refl _
  | d :: l => by
    unfold insertBy
    split
    · exact List.Perm.refl _
    · exact ((insertBy_perm e l).cons d).trans (List.Perm.swap e d l)
theorem insertBy_sorted (h : TotalCmp c) (e : α) : ∀ l : List α, Sorted c k l → (∀ d ∈ l, k d ≠ k e) → Sorted c k (insertBy c k e l)
  | [], _, _ => by simp [insertBy, Sorted]
  | d :: l, hs, hn => by
    have hs' := List.pairwise_cons.1 hs
    unfold insertBy
    split
    · rename_i hlt
      refine List.pairwise_cons.2 ⟨fun x hx => ?_, hs⟩
      rcases List.mem_cons.1 hx with rfl | hx
      · exact hlt
      · exact h.trans _ _ _ hlt (hs'.1 x hx)
    · rename_i hge
      refine List.pairwise_cons.2 ⟨fun x hx => ?_, insertBy_sorted h e l hs'.2 (fun y hy => hn y (by simp [hy]))⟩
      have hx' := (insertBy_perm k e l).mem_iff.1 hx
      rcases List.mem_cons.1 hx' with rfl | hx
      · have h0 : c (k d) (k x) ≠ 0 := fun e0 => hn d (by simp) ((h.zero _ _).1 e0)
        have h1 := h.anti (k d) (k x)
        omega
      · exact hs'.1 x hx
theorem sorted_eq (h : TotalCmp c) : ∀ (l m : List α), Sorted c k l → Sorted c k m → l.Perm m → l = m
  | [], m, _, _, hp => by simp [hp.symm.eq_nil] 
  | a :: l, [], _, _, hp => by simpa using hp.eq_nil
  | a :: l, b :: m, hs, ht, hp => by
    have hs' := List.pairwise_cons.1 hs
    have ht' := List.pairwise_cons.1 ht
    have e : a = b := by
      have ha : a ∈ b :: m := hp.mem_iff.1 (by simp)
      have hb : b ∈ a :: l := hp.mem_iff.2 (by simp)
      rcases List.mem_cons.1 ha with e | ha
      · exact e
      · rcases List.mem_cons.1 hb with e | hb
        · exact e.symm
        · have h1 := ht'.1 a ha
          have h2 := hs'.1 b hb
          have h3 := h.anti (k a) (k b)
          omega
    subst e
    rw [sorted_eq h l m hs'.2 ht'.2 (List.Perm.cons_inv hp)]
theorem sorted_nodup (h : TotalCmp c) {l : List α} (hs : Sorted c k l) : (l.map k).Nodup := by
  rw [List.nodup_iff_pairwise_ne, List.pairwise_map]
  refine hs.imp fun {a b} hab e => ?_
  rw [(h.zero _ _).2 e] at hab; omega
end
end Go.WW
/- Maps keyed by strings, and what may change. -/
namespace Go.WW
open Go.RowKit
/-- All but the blocks S are as they were. -/
structure But (S : Nat → Prop) (w w' : World) : Prop where
  os : w'.os = w.os
  tape : w'.tape = w.tape
  output : w'.output = w.output
  size : w.heap.size ≤ w'.heap.size
  block : ∀ k, k < w.heap.size → ¬ S k → w'.heap[k]? = w.heap[k]?
theorem But.refl (S : Nat → Prop) (w : World) : But S w w := ⟨rfl, rfl, rfl, Nat.le_refl _, fun _ _ _ => rfl⟩
theorem But.trans {S : Nat → Prop} {a b c : World} (h : But S a b) (k : But S b c) : But S a c :=
  ⟨k.os.trans h.os, k.tape.trans h.tape, k.output.trans h.output, Nat.le_trans h.size k.size, fun i hi hS => (k.block i (Nat.lt_of_lt_of_le hi h.size) hS).trans (h.block i hi hS)⟩
theorem But.of_below {S : Nat → Prop} {w w' : World} (h : Below w.heap.size w w') : But S w w' := ⟨h.os, h.tape, h.output, h.size, fun k hk _ => h.block k hk⟩
theorem But.mono {S S' : Nat → Prop} {w w' : World} (h : But S w w') (hS : ∀ k, S k → S' k) : But S' w w' := ⟨h.os, h.tape, h.output, h.size, fun k hk hn => h.block k hk (fun x => hn (hS k x))⟩
theorem But.below {S : Nat → Prop} {w w' : World} {n : Nat} (h : But S w w') (hn : n ≤ w.heap.size) (hS : ∀ k, S k → n ≤ k) : Below n w w' :=
  ⟨h.os, h.tape, h.output, h.size, fun k hk => h.block k (Nat.lt_of_lt_of_le hk hn) (fun x => absurd (hS k x) (by omega))⟩
/-- What a map's entries are, in plain terms. -/
structure MapRep (es : Array MapEntry) (clock : Nat) (m : List (ByteArray × Value)) : Prop where
  ents : es.toList.map (fun e => (e.key, e.val)) = m.map (fun x => (Value.string x.1, x.2))
  keys : (m.map (·.1)).Nodup
  born : ∀ e ∈ es.toList, e.born < clock
  once : (es.toList.map (·.born)).Nodup
def MapOf (w : World) (b : Nat) (m : List (ByteArray × Value)) : Prop := ∃ es clock, w.heap[b]? = some (.map es clock) ∧ MapRep es clock m
theorem MapOf.at {w w' : World} {b : Nat} {m : List (ByteArray × Value)} (h : MapOf w b m) (e : w'.heap[b]? = w.heap[b]?) : MapOf w' b m := by
  obtain ⟨es, clock, h1, h2⟩ := h
  exact ⟨es, clock, e.trans h1, h2⟩
theorem MapOf.lt {w : World} {b : Nat} {m : List (ByteArray × Value)} (h : MapOf w b m) : b < w.heap.size := by
  obtain ⟨es, clock, h1, _⟩ := h
  exact (Array.getElem?_eq_some_iff.1 h1).1
theorem same_str (a b : ByteArray) : Instr.sameNow .string (.string a) (.string b) = some (decide (a = b)) := by
  show some (a == b) = _
  congr 1
  by_cases h : a = b
  · rw [decide_eq_true h, (MapKept.bytes_beq a b).2 h]
  · rw [decide_eq_false h, ← Bool.not_eq_true, MapKept.bytes_beq]; exact h
theorem find_no (k : ByteArray) : ∀ (l : List MapEntry) (m : List (ByteArray × Value)) (i : Nat), l.map (fun e => (e.key, e.val)) = m.map (fun x => (Value.string x.1, x.2)) → k ∉ m.map (·.1) → Instr.findNow .string (.string k) l i = some none
  | [], _, _, _, _ => rfl
  | e :: l, [], _, h, _ => by simp at h
  | e :: l, x :: m, i, h, hk => by
    simp only [List.map_cons, List.cons.injEq, Prod.mk.injEq] at h
    unfold Instr.findNow
    have hne : ¬ k = x.1 := fun he => hk (by simp [he])
    rw [h.1.1, same_str, decide_eq_false hne]
    exact find_no k l m (i + 1) h.2 (fun hm => hk (by simp only [List.map_cons, List.mem_cons]; exact .inr hm))
theorem find_yes (k : ByteArray) (v : Value) : ∀ (l : List MapEntry) (m : List (ByteArray × Value)) (i : Nat), l.map (fun e => (e.key, e.val)) = m.map (fun x => (Value.string x.1, x.2)) → (m.map (·.1)).Nodup → (k, v) ∈ m → ∃ j, Instr.findNow .string (.string k) l i = some (some (i + j, v)) ∧ m[j]? = some (k, v)
  | [], m, _, h, _, hv => by cases m with | nil => simp at hv | cons => simp at h
  | e :: l, [], _, h, _, _ => by simp at h
  | e :: l, x :: m, i, h, hn, hv => by
    simp only [List.map_cons, List.cons.injEq, Prod.mk.injEq] at h
    simp only [List.map_cons, List.nodup_cons] at hn
    unfold Instr.findNow
    rw [h.1.1, same_str]
    by_cases he : k = x.1
    · rw [decide_eq_true he]
      have hx : x = (k, v) := by
        rcases List.mem_cons.1 hv with e | hv
        · exact e.symm
        · exact absurd (List.mem_map.2 ⟨(k, v), hv, he⟩) hn.1
      subst hx
      exact ⟨0, by rw [h.1.2]; rfl, rfl⟩
    · rw [decide_eq_false he]
      have hv' : (k, v) ∈ m := by
        rcases List.mem_cons.1 hv with e | hv
        · exact absurd (by rw [← e]) he
        · exact hv
      obtain ⟨j, h1, h2⟩ := find_yes k v l m (i + 1) h.2 hn.2 hv'
      exact ⟨j + 1, by rw [show i + (j + 1) = i + 1 + j by omega]; exact h1, by simpa using h2⟩
section
variable {P : Program} {w : World} {mty kt et : TypeId} {b : Nat} {m : List (ByteArray × Value)} {k : ByteArray}
theorem look_yes {v : Value} (c : Bool) (hm : P.underlying mty = some (.map kt et)) (hd : P.underlying kt = some .string) (h : MapOf w b m) (hv : (k, v) ∈ m) :
    (Instr.lookup mty (.map (some b)) (.string k) c).run P w = .ok (if c then .tuple #[v, .bool true] else v) w := by
  obtain ⟨es, clock, hb, hr⟩ := h
  obtain ⟨j, hf, _⟩ := find_yes k v _ _ 0 hr.ents hr.keys hv
  have hc : (Instr.checkKey es.isEmpty 10000 kt (.string k)).run P w = .ok () w := MapKept.run_checkKey hd (by trivial) _ 9999
  simp [Instr.lookup, run_underlying hm, MapKept.run_getObj_map hb, hc, MapKept.run_findKey hd hf, Result.andThen]
theorem look_no {z : Value} (c : Bool) (hm : P.underlying mty = some (.map kt et)) (hd : P.underlying kt = some .string) (h : MapOf w b m) (hz : (zeroValue et).run P w = .ok z w) (hv : k ∉ m.map (·.1)) :
    (Instr.lookup mty (.map (some b)) (.string k) c).run P w = .ok (if c then .tuple #[z, .bool false] else z) w := by
  obtain ⟨es, clock, hb, hr⟩ := h
  have hf := find_no k _ _ 0 hr.ents hv
  have hc : (Instr.checkKey es.isEmpty 10000 kt (.string k)).run P w = .ok () w := MapKept.run_checkKey hd (by trivial) _ 9999
  simp [Instr.lookup, run_underlying hm, MapKept.run_getObj_map hb, hc, MapKept.run_findKey hd hf, Result.andThen, hz]
def hasK (m : List (ByteArray × Value)) (k : ByteArray) : Bool := m.any fun x => decide (x.1 = k)
theorem hasK_iff (m : List (ByteArray × Value)) (k : ByteArray) : hasK m k = true ↔ k ∈ m.map (·.1) := by simp [hasK]
/-- The map with an element at a key. -/
def setM (m : List (ByteArray × Value)) (k : ByteArray) (v : Value) : List (ByteArray × Value) := if hasK m k = true then m.map (fun x => if x.1 = k then (k, v) else x) else m ++ [(k, v)]
/-- The map without a key. -/
def delM (m : List (ByteArray × Value)) (k : ByteArray) : List (ByteArray × Value) := m.filter fun x => decide (x.1 ≠ k)
theorem putObj_but {w : World} {b : Nat} (o : Obj) : But (· = b) w (w.putObj b o) :=
  ⟨rfl, rfl, rfl, by simp [World.putObj], fun k _ hn => by simp only [World.putObj]; rw [Array.getElem?_setIfInBounds]; simp [Ne.symm (show k ≠ b from hn)]⟩
theorem modify_map (l : List MapEntry) : ∀ (m : List (ByteArray × Value)) (j : Nat) (v : Value), l.map (fun e => (e.key, e.val)) = m.map (fun x => (Value.string x.1, x.2)) → (m.map (·.1)).Nodup → ∀ k v0, m[j]? = some (k, v0) →
    (l.modify j fun e => { e with key := .string k, val := v }).map (fun e => (e.key, e.val)) = (m.map (fun x => if x.1 = k then (k, v) else x)).map (fun x => (Value.string x.1, x.2)) := by
  induction l with
  | nil => intro m j v h; cases m with | nil => simp | cons => simp at h
  | cons e l ih =>
    intro m j v h hn k v0 hj
    cases m with
    | nil => simp at h
    | cons x m =>
      simp only [List.map_cons, List.cons.injEq, Prod.mk.injEq] at h
      simp only [List.map_cons, List.nodup_cons] at hn
      cases j with
      | zero =>
        simp only [List.getElem?_cons_zero, Option.some.injEq] at hj
        subst hj
        have hm : m.map (fun x => if x.1 = k then (k, v) else x) = m := by
          conv => rhs; rw [← List.map_id m]
          refine List.map_congr_left fun y hy => ?_
          have : ¬ y.1 = k := fun e => hn.1 (List.mem_map.2 ⟨y, hy, e⟩)
          simp [this]
        simp [hm, h.2]
      | succ j =>
        simp only [List.getElem?_cons_succ] at hj
        have hne : ¬ x.1 = k := fun e => hn.1 (by
          have := List.mem_of_getElem? hj
          exact List.mem_map.2 ⟨_, this, e.symm⟩)
        simp only [List.modify_succ_cons, List.map_cons, hne, if_false]
        rw [ih m j v h.2 hn.2 k v0 hj, h.1.1, h.1.2]
theorem setM_keys_old {m : List (ByteArray × Value)} {k : ByteArray} {v : Value} : (m.map (fun x => if x.1 = k then (k, v) else x)).map (·.1) = m.map (·.1) := by
  rw [List.map_map]
  refine List.map_congr_left fun x _ => ?_
  simp only [Function.comp]
  split
  · rename_i h; exact h.symm
  · rfl
theorem upd_map {v : Value} (hm : P.underlying mty = some (.map kt et)) (hd : P.underlying kt = some .string) (h : MapOf w b m) :
    ∃ w', (Instr.mapUpdate mty (.map (some b)) (.string k) v).run P w = .ok () w' ∧ MapOf w' b (setM m k v) ∧ But (· = b) w w' ∧ w'.heap.size = w.heap.size := by
  obtain ⟨es, clock, hb, hr⟩ := h
  have hlt := (Array.getElem?_eq_some_iff.1 hb).1
  have hc : (Instr.checkKey false 10000 kt (.string k)).run P w = .ok () w := MapKept.run_checkKey hd (by trivial) _ 9999
  by_cases hk : k ∈ m.map (·.1)
  · obtain ⟨⟨k', v0⟩, hx, rfl⟩ := List.mem_map.1 hk
    obtain ⟨j, hf, hj⟩ := find_yes k' v0 _ _ 0 hr.ents hr.keys hx
    rw [Nat.zero_add] at hf
    have hjl : j < es.toList.length := by
      have h1 := (List.getElem?_eq_some_iff.1 hj).1
      have h2 := congrArg List.length hr.ents
      simp only [List.length_map] at h2
      omega
    have hkey : es[j]?.map (·.key) = some (.string k') := by
      have h2 := congrArg (fun l => (l[j]?).map (·.1)) hr.ents
      simp only [List.getElem?_map, hj, Option.map_map] at h2
      rw [← Array.getElem?_toList]
      simpa [Function.comp] using h2
    have hks : (Instr.keyThatStays (((es[j]?).map (·.key)).getD (.string k')) (.string k')).run P w = .ok (.string k') w := by
      rw [hkey]; exact MapKept.run_keyThatStays (d := .string) (by trivial)
    refine ⟨w.putObj b (.map (es.modify j fun e => { e with key := .string k', val := v }) clock), ?_, ⟨_, clock, World.putObj_heap_same hlt, ?_⟩, putObj_but _, by simp [World.putObj]⟩
    · simp [Instr.mapUpdate, run_underlying hm, MapKept.run_getObj_map hb, hc, MapKept.run_findKey hd hf, hks, MapKept.run_setObj_map _ hb, Result.andThen, World.putObj]
    · unfold setM
      rw [if_pos ((hasK_iff _ _).2 hk)]
      refine ⟨?_, by rw [setM_keys_old]; exact hr.keys, ?_, ?_⟩
      · rw [Array.toList_modify]; exact modify_map _ _ _ _ hr.ents hr.keys k' v0 hj
      · intro e he
        rw [Array.toList_modify] at he
        obtain ⟨i, hi, rfl⟩ := List.mem_iff_getElem.1 he
        rw [List.getElem_modify]
        have hi' : i < es.toList.length := by simpa using hi
        split
        · rename_i e; subst e; exact hr.born es.toList[j] (List.getElem_mem hi')
        · exact hr.born _ (List.getElem_mem hi')
      · have : (es.modify j fun e => { e with key := .string k', val := v }).toList.map (·.born) = es.toList.map (·.born) := by
          rw [Array.toList_modify]
          refine List.ext_getElem (by simp) fun i h1 h2 => ?_
          simp only [List.getElem_map, List.getElem_modify]
          split
          · rename_i e; subst e; rfl
          · rfl
        rw [this]; exact hr.once
  · have hf := find_no k _ _ 0 hr.ents hk
    refine ⟨w.putObj b (.map (es.push { key := .string k, val := v, born := clock }) (clock + 1)), ?_, ⟨_, clock + 1, World.putObj_heap_same hlt, ?_⟩, putObj_but _, by simp [World.putObj]⟩
    · simp [Instr.mapUpdate, run_underlying hm, MapKept.run_getObj_map hb, hc, MapKept.run_findKey hd hf, MapKept.run_setObj_map _ hb, Result.andThen, World.putObj]
    · unfold setM
      rw [if_neg (fun e => hk ((hasK_iff _ _).1 e))]
      refine ⟨by simp [hr.ents], ?_, ?_, ?_⟩
      · rw [List.map_append]
        refine List.nodup_append.2 ⟨hr.keys, by simp, ?_⟩
        intro a ha c hc e
        simp only [List.map_cons, List.map_nil, List.mem_singleton] at hc
        exact hk (by rw [← hc, ← e]; exact ha)
      · intro e he
        simp only [Array.toList_push, List.mem_append, List.mem_singleton] at he
        rcases he with he | rfl
        · have := hr.born e he; omega
        · exact Nat.lt_succ_self _
      · simp only [Array.toList_push, List.map_append, List.map_cons, List.map_nil]
        refine List.nodup_append.2 ⟨hr.once, by simp, ?_⟩
        intro a ha c hc e
        simp only [List.mem_singleton] at hc
        obtain ⟨x, hx, rfl⟩ := List.mem_map.1 ha
        have := hr.born x hx
        omega
theorem erase_map (l : List MapEntry) : ∀ (m : List (ByteArray × Value)) (j : Nat), l.map (fun e => (e.key, e.val)) = m.map (fun x => (Value.string x.1, x.2)) → (m.map (·.1)).Nodup → ∀ k v0, m[j]? = some (k, v0) →
    (l.eraseIdx j).map (fun e => (e.key, e.val)) = (delM m k).map (fun x => (Value.string x.1, x.2)) := by
  induction l with
  | nil => intro m j h; cases m with | nil => simp [delM] | cons => simp at h
  | cons e l ih =>
    intro m j h hn k v0 hj
    cases m with
    | nil => simp at h
    | cons x m =>
      simp only [List.map_cons, List.cons.injEq, Prod.mk.injEq] at h
      simp only [List.map_cons, List.nodup_cons] at hn
      cases j with
      | zero =>
        simp only [List.getElem?_cons_zero, Option.some.injEq] at hj
        subst hj
        have hm : delM ((k, v0) :: m) k = m := by
          unfold delM
          rw [List.filter_cons_of_neg (by simp)]
          refine List.filter_eq_self.2 fun y hy => ?_
          have : ¬ y.1 = k := fun e => hn.1 (List.mem_map.2 ⟨y, hy, e⟩)
          simp [this]
        rw [hm]; exact h.2
      | succ j =>
        simp only [List.getElem?_cons_succ] at hj
        have hne : ¬ x.1 = k := fun e => hn.1 (by
          have := List.mem_of_getElem? hj
          exact List.mem_map.2 ⟨_, this, e.symm⟩)
        have hd : delM (x :: m) k = x :: delM m k := by unfold delM; rw [List.filter_cons_of_pos (by simp [hne])]
        rw [hd]
        simp only [List.eraseIdx_cons_succ, List.map_cons]
        rw [ih m j h.2 hn.2 k v0 hj, h.1.1, h.1.2]
theorem delM_none {m : List (ByteArray × Value)} {k : ByteArray} (h : k ∉ m.map (·.1)) : delM m k = m :=
  List.filter_eq_self.2 fun y hy => by have : ¬ y.1 = k := fun e => h (List.mem_map.2 ⟨y, hy, e⟩); simp [this]
theorem del_map {ty : TypeId} {tys : Array TypeId} (ht : tys[0]? = some mty) (hm : P.underlying mty = some (.map kt et)) (hd : P.underlying kt = some .string) (h : MapOf w b m) :
    ∃ w', (Builtin.delete_ tys ty #[.map (some b), .string k]).run P w = .ok (.tuple #[]) w' ∧ MapOf w' b (delM m k) ∧ But (· = b) w w' ∧ w'.heap.size = w.heap.size := by
  obtain ⟨es, clock, hb, hr⟩ := h
  have hlt := (Array.getElem?_eq_some_iff.1 hb).1
  have hc : (Instr.checkKey es.isEmpty 10000 kt (.string k)).run P w = .ok () w := MapKept.run_checkKey hd (by trivial) _ 9999
  by_cases hk : k ∈ m.map (·.1)
  · obtain ⟨⟨k', v0⟩, hx, rfl⟩ := List.mem_map.1 hk
    obtain ⟨j, hf, hj⟩ := find_yes k' v0 _ _ 0 hr.ents hr.keys hx
    rw [Nat.zero_add] at hf
    refine ⟨w.putObj b (.map (es.eraseIdxIfInBounds j) clock), ?_, ⟨_, clock, World.putObj_heap_same hlt, ?_⟩, putObj_but _, by simp [World.putObj]⟩
    · simp [Builtin.delete_, ht, run_underlying hm, MapKept.run_getObj_map hb, hc, MapKept.run_findKey hd hf, MapKept.run_setObj_map _ hb, Result.andThen, World.putObj]
    · have ht : (es.eraseIdxIfInBounds j).toList = es.toList.eraseIdx j := by simp
      refine ⟨by rw [ht]; exact erase_map _ _ _ hr.ents hr.keys k' v0 hj, ?_, ?_, ?_⟩
      · exact (List.filter_sublist.map _).nodup hr.keys
      · intro e he; rw [ht] at he; exact hr.born e (List.mem_of_mem_eraseIdx he)
      · rw [ht]; exact ((List.eraseIdx_sublist _ _).map _).nodup hr.once
  · have hf := find_no k _ _ 0 hr.ents hk
    refine ⟨w.putObj b (.map es clock), ?_, ⟨_, clock, World.putObj_heap_same hlt, by rw [delM_none hk]; exact hr⟩, putObj_but _, by simp [World.putObj]⟩
    simp [Builtin.delete_, ht, run_underlying hm, MapKept.run_getObj_map hb, hc, MapKept.run_findKey hd hf, MapKept.run_setObj_map _ hb, Result.andThen, World.putObj]
theorem MapOf.len (h : MapOf w b m) : ∃ es clock, w.heap[b]? = some (.map es clock) ∧ es.size = m.length := by
  obtain ⟨es, clock, hb, hr⟩ := h
  have h2 := congrArg List.length hr.ents
  simp only [List.length_map, Array.length_toList] at h2
  exact ⟨es, clock, hb, h2⟩
end
end Go.WW
/- A range over a map, in whatever order. -/
namespace Go.WW
open Go.RowKit
/-- The iterator at block i over the map at block b, which holds m; what is left to come. -/
def IterOf (w : World) (i b : Nat) (m left : List (ByteArray × Value)) : Prop :=
  ∃ es clock seen c0, w.heap[i]? = some (.mapIter (some b) clock seen c0) ∧ w.heap[b]? = some (.map es clock) ∧ MapRep es clock m ∧ clock ≤ c0 ∧ (leftOf es seen).toList.map (fun e => (e.key, e.val)) = left.map (fun x => (Value.string x.1, x.2))
theorem IterOf.map {w : World} {i b : Nat} {m left : List (ByteArray × Value)} (h : IterOf w i b m left) : MapOf w b m := by
  obtain ⟨es, clock, seen, c0, h1, h2, h3, h4⟩ := h
  exact ⟨es, clock, h2, h3⟩
theorem IterOf.at {w w' : World} {i b : Nat} {m left : List (ByteArray × Value)} (h : IterOf w i b m left) (e : w'.heap[i]? = w.heap[i]?) (e' : w'.heap[b]? = w.heap[b]?) : IterOf w' i b m left := by
  obtain ⟨es, clock, seen, c0, h1, h2, h3, h4⟩ := h
  exact ⟨es, clock, seen, c0, e.trans h1, e'.trans h2, h3, h4⟩
theorem IterOf.lt {w : World} {i b : Nat} {m left : List (ByteArray × Value)} (h : IterOf w i b m left) : i < w.heap.size := by
  obtain ⟨es, clock, seen, c0, h1, h2, h3, h4⟩ := h
  exact (Array.getElem?_eq_some_iff.1 h1).1
theorem filter_one (l : List MapEntry) (seen : Array Nat) (e : MapEntry) (A B : List MapEntry) (hn : (l.map (·.born)).Nodup) (h : l.filter (fun x => !seen.contains x.born) = A ++ e :: B) : l.filter (fun x => !(seen.push e.born).contains x.born) = A ++ B := by
  have h1 : l.filter (fun x => !(seen.push e.born).contains x.born) = (l.filter (fun x => !seen.contains x.born)).filter (fun x => decide (x.born ≠ e.born)) := by
    rw [List.filter_filter]
    refine List.filter_congr fun x _ => ?_
    simp [Bool.and_comm]
  rw [h1, h, List.filter_append, List.filter_cons_of_neg (by simp)]
  have hs : (A ++ e :: B).Sublist l := by rw [← h]; exact List.filter_sublist
  have hn' := (hs.map (·.born)).nodup hn
  rw [List.map_append, List.map_cons] at hn'
  have hAB := List.nodup_append.1 hn'
  rw [List.filter_eq_self.2, List.filter_eq_self.2]
  · intro x hx
    have := (List.nodup_cons.1 hAB.2.1).1
    simp only [ne_eq, decide_not, Bool.not_eq_eq_eq_not, Bool.not_true, decide_eq_false_iff_not]
    exact fun e' => this (by rw [← e']; exact List.mem_map.2 ⟨x, hx, rfl⟩)
  · intro x hx
    simp only [ne_eq, decide_not, Bool.not_eq_eq_eq_not, Bool.not_true, decide_eq_false_iff_not]
    exact fun e' => hAB.2.2 _ (List.mem_map.2 ⟨x, hx, rfl⟩) _ (by simp) e'
section
variable {P : Program} {w : World} {i b : Nat} {m left : List (ByteArray × Value)}
theorem iter_start {mty kt et : TypeId} (hm : P.underlying mty = some (.map kt et)) (h : MapOf w b m) :
    ∃ w', (Instr.range mty (.map (some b))).run P w = .ok (.pointer (some ⟨w.heap.size, 0, none⟩)) w' ∧ IterOf w' w.heap.size b m m ∧ Below w.heap.size w w' ∧ w'.heap.size = w.heap.size + 1 := by
  obtain ⟨es, clock, hb, hr⟩ := h
  have hlt := (Array.getElem?_eq_some_iff.1 hb).1
  refine ⟨w.alloc (.mapIter (some b) clock #[] clock), run_range_map w mty kt et b es clock hm hb, ⟨es, clock, #[], clock, World.alloc_heap_new _ _, (Below.heap_alloc _ _ _ hlt).trans hb, hr, Nat.le_refl _, ?_⟩, (Below.refl _ w).alloc (Nat.le_refl _) _, by simp⟩
  have : (leftOf es #[]).toList = es.toList := by unfold leftOf; simp
  rw [this]; exact hr.ents
theorem iter_next (ty : TypeId) (h : IterOf w i b m left) :
    (left = [] ∧ (Instr.next (.pointer (some ⟨i, 0, none⟩)) false ty).run P w = .ok (.tuple #[.bool false]) w) ∨
    ∃ l1 x l2 w', left = l1 ++ x :: l2 ∧ (Instr.next (.pointer (some ⟨i, 0, none⟩)) false ty).run P w = .ok (.tuple #[.bool true, .string x.1, x.2]) w' ∧ (Instr.entry (.pointer (some ⟨i, 0, none⟩))).run P w' = .ok (.tuple #[.string x.1, x.2]) w' ∧ IterOf w' i b m (l1 ++ l2) ∧ But (· = i) w w' ∧ w'.heap.size = w.heap.size := by
  obtain ⟨es, clock, seen, c0, h1, h2, h3, h4, h5⟩ := h
  have hib : i ≠ b := fun e => by rw [e, h2] at h1; cases h1
  rcases run_next_at (P := P) w ty i b clock c0 seen es clock h1 h2 h3.born h4 with ⟨h0, hrun⟩ | ⟨e, he, w1, hw1, hrun⟩
  · left
    refine ⟨?_, hrun⟩
    have hl := congrArg List.length h5
    simp only [List.length_map, Array.length_toList] at hl
    exact List.eq_nil_of_length_eq_zero (by omega)
  · right
    obtain ⟨A, B, hAB⟩ := List.append_of_mem he
    rw [hAB, List.map_append, List.map_cons] at h5
    obtain ⟨l1, l', hl, e1, e2⟩ := List.map_eq_append_iff.1 h5.symm
    obtain ⟨x, l2, rfl, e3, e4⟩ := List.map_eq_cons_iff.1 e2
    simp only [Prod.mk.injEq] at e3
    have hlt := (Array.getElem?_eq_some_iff.1 h1).1
    have hheap : w1.heap = w.heap := by rcases hw1 with rfl | rfl <;> rfl
    have hi' : (ChangeMaps.setBlock w1 i (.mapIter (some b) clock (seen.push e.born) clock)).heap[i]? = some (.mapIter (some b) clock (seen.push e.born) clock) := by
      simp only [ChangeMaps.setBlock, hheap]; rw [Array.getElem?_setIfInBounds]; simp [hlt]
    have hb' : (ChangeMaps.setBlock w1 i (.mapIter (some b) clock (seen.push e.born) clock)).heap[b]? = some (.map es clock) := by
      simp only [ChangeMaps.setBlock, hheap]; rw [Array.getElem?_setIfInBounds]; simp [hib, h2]
    have hees : e ∈ es.toList := by
      unfold leftOf at he
      rw [Array.toList_filter] at he
      exact (List.mem_filter.1 he).1
    refine ⟨l1, x, l2, _, hl, by rw [e3.1, e3.2]; exact hrun, ?_, ⟨es, clock, _, clock, hi', hb', h3, Nat.le_refl _, ?_⟩, ?_, by simp [ChangeMaps.setBlock, hheap]⟩
    · rw [e3.1, e3.2]; exact run_entry_at _ i b clock seen es clock e hi' hb' hees h3.once
    · unfold leftOf at hAB ⊢
      rw [Array.toList_filter] at hAB ⊢
      rw [filter_one _ _ _ _ _ h3.once hAB, List.map_append, List.map_append, e1, e4]
    · have ht : w1.tape = w.tape ∧ w1.os = w.os ∧ w1.output = w.output := by rcases hw1 with rfl | rfl <;> exact ⟨rfl, rfl, rfl⟩
      refine ⟨ht.2.1, ht.1, ht.2.2, by simp [ChangeMaps.setBlock, hheap], fun k hk hn => ?_⟩
      simp only [ChangeMaps.setBlock, hheap]
      rw [Array.getElem?_setIfInBounds]
      simp [Ne.symm (show k ≠ i from hn)]
end
end Go.WW
/- Contracts of the small functions on numbers. -/
namespace Go.WW
/-- A number from lo to hi. -/
def btw (v lo hi : Int) : Bool := decide (lo ≤ v) && decide (v ≤ hi)
theorem btw_iff {v lo hi : Int} : btw v lo hi = true ↔ lo ≤ v ∧ v ≤ hi := by simp [btw]
/-- A time. -/
def isTime (t : Int) : Bool := btw t 0 1099511627776
end Go.WW
namespace Go.Proofs.YthbialpbkpiekaaGreatDoor
open Go.RowKit Go.WW

theorem between_c (v lo hi : Int) (w : World) : Calls Tryz.prog 94 #[.int .i64 v, .int .i64 lo, .int .i64 hi] w fun e w' => e = .returned (.bool (btw v lo hi)) ∧ w = w' := by
  go_enter Tryz.func94, Tryz.ntmps94
  go_wp2
  all_goals go_ret
  all_goals exact ⟨by first | (simp [btw, *]; done) | (simp [btw]; omega), rfl⟩

theorem pbetween_c (v lo hi : Int) (w : World) : Calls Tryz.prog 104 #[.int .i64 v, .int .i64 lo, .int .i64 hi] w fun e w' => e = .returned (.bool (btw v lo hi)) ∧ w = w' := by
  go_enter Tryz.func104, Tryz.ntmps104
  go_wp2
  all_goals go_ret
  all_goals exact ⟨by first | (simp [btw, *]; done) | (simp [btw]; omega), rfl⟩

end Go.Proofs.YthbialpbkpiekaaGreatDoor
/- Contracts of the functions that look at the bytes of a string. -/
namespace Go.WW
/-- A visible byte. -/
def visB (c : UInt8) : Bool := decide (33 ≤ (c.toNat : Int)) && decide ((c.toNat : Int) ≤ 126)
def visible (s : ByteArray) : Bool := s.data.toList.all visB
/-- A string of 1 to 32 bytes. -/
def sized (s : ByteArray) : Bool := decide (1 ≤ (s.size : Int)) && decide ((s.size : Int) ≤ 32)
def isPart (s : ByteArray) : Bool := visible s && sized s

theorem bget (s : ByteArray) (k : Nat) (h : k < s.size) : s.data.toList[k]? = some s[k] := by
  have h' : k < s.data.size := h
  rw [Array.getElem?_toList, Array.getElem?_eq_getElem h']; rfl
theorem all_step {p : UInt8 → Bool} (s : ByteArray) (k : Nat) (h : k < s.size) (h1 : (s.data.toList.take k).all p = true) (h2 : p s[k] = true) : (s.data.toList.take (k + 1)).all p = true := by
  rw [List.take_succ_eq_append_getElem (by simpa using h), List.all_append, h1]
  have : s.data.toList[k] = s[k] := rfl
  simp [this, h2]
theorem all_no {p : UInt8 → Bool} (s : ByteArray) (k : Nat) (h : k < s.size) (h2 : p s[k] = false) : s.data.toList.all p = false := by
  rw [List.all_eq_false]
  exact ⟨s[k], List.mem_of_getElem? (bget s k h), by simp [h2]⟩
theorem all_end {p : UInt8 → Bool} (s : ByteArray) (k : Nat) (h : s.size ≤ k) (h1 : (s.data.toList.take k).all p = true) : s.data.toList.all p = true := by
  rwa [List.take_of_length_le (by simpa using h)] at h1
end Go.WW
namespace Go.Proofs.YthbialpbkpiekaaGreatDoor
open Go.RowKit Go.WW

theorem sized_c (s : ByteArray) (w : World) (hs : s.size ≤ maxLen) : Calls Tryz.prog 74 #[.string s] w fun e w' => e = .returned (.bool (sized s)) ∧ w = w' := by
  unfold maxLen at hs
  go_enter Tryz.func74, Tryz.ntmps74
  go_wp2
  all_goals go_ret
  all_goals exact ⟨by first | (simp [sized, *]; done) | (simp [sized]; omega), rfl⟩

theorem part_c (s : ByteArray) (w : World) (hs : s.size ≤ maxLen) : Calls Tryz.prog 102 #[.string s] w fun e w' => e = .returned (.bool (isPart s)) ∧ w = w' := by
  have hs' := hs
  unfold maxLen at hs
  go_enter Tryz.func102, Tryz.ntmps102
  go_wp2
  go_loop [6] (fun i => ∃ k : Nat, k ≤ s.size ∧ i = .int .i64 k ∧ Hid ((s.data.toList.take k).all visB = true)) (fun i => s.size - (intOf i).toNat)
  case atStart => exact ⟨0, Nat.zero_le _, rfl, by simp [Hid]⟩
  case round =>
    obtain ⟨k, hk, rfl, hall⟩ := hrel
    by_cases hlt : k < s.size
    · go_wp2
      all_goals first
        | (go_ret; exact ⟨by rw [show isPart s = false from by rw [isPart, show visible s = false from all_no s k hlt (by simp [visB]; omega)]; rfl]; rfl, rfl⟩)
        | (go_round
           case rel => exact ⟨k + 1, by omega, by go_num, all_step s k hlt hall.out (by simp [visB]; omega)⟩
           case measure => simp [intOf]; omega)
    · go_wp2_with (go_at_call 74; refine (sized_c _ _ hs').mono ?_; rintro e w' ⟨rfl, rfl⟩)
      go_ret
      exact ⟨by rw [show isPart s = sized s from by rw [isPart, show visible s = true from all_end s k (by omega) hall.out]; rfl]; rfl, rfl⟩

theorem validText_c (s : ByteArray) (w : World) (hs : s.size ≤ maxLen) : Calls Tryz.prog 97 #[.string s] w fun e w' => e = .returned (.bool (visible s && decide ((s.size : Int) ≤ 32))) ∧ w = w' := by
  unfold maxLen at hs
  go_enter Tryz.func97, Tryz.ntmps97
  go_wp2
  go_loop [6] (fun i => ∃ k : Nat, k ≤ s.size ∧ i = .int .i64 k ∧ Hid ((s.data.toList.take k).all visB = true)) (fun i => s.size - (intOf i).toNat)
  case atStart => exact ⟨0, Nat.zero_le _, rfl, by simp [Hid]⟩
  case round =>
    obtain ⟨k, hk, rfl, hall⟩ := hrel
    by_cases hlt : k < s.size
    · go_wp2
      all_goals first
        | (go_ret; exact ⟨by rw [show visible s = false from all_no s k hlt (by simp [visB]; omega)]; rfl, rfl⟩)
        | (go_round
           case rel => exact ⟨k + 1, by omega, by go_num, all_step s k hlt hall.out (by simp [visB]; omega)⟩
           case measure => simp [intOf]; omega)
    · go_wp2
      all_goals go_ret
      all_goals exact ⟨by rw [show visible s = true from all_end s k (by omega) hall.out]; first | rfl | (simp; done) | (simp; omega), rfl⟩
end Go.Proofs.YthbialpbkpiekaaGreatDoor
/- Contracts of the reference's functions on principals. -/
namespace Go.WW
/-- A byte of a realm. -/
def realmB (c : UInt8) : Bool := (c.toNat : Int) == 46 || (c.toNat : Int) == 45 || (decide (65 ≤ (c.toNat : Int)) && decide ((c.toNat : Int) ≤ 90)) || (decide (48 ≤ (c.toNat : Int)) && decide ((c.toNat : Int) ≤ 57))
def dotB (c : UInt8) : Bool := (c.toNat : Int) == 46
/-- What the reference asks of the byte with number i. -/
def realmAt (s : ByteArray) (i : Nat) : Bool :=
  match s.data.toList[i]? with
  | none => true
  | some c => realmB c && !(dotB c && (i == 0 || i + 1 == s.size || (s.data.toList[i - 1]?).any dotB))
def realmOk (s : ByteArray) : Bool := (List.range s.size).all (realmAt s) && sized s
def prinOk (p : Prin) : Bool := p.parts.all isPart && decide (1 ≤ (p.parts.length : Int)) && decide ((p.parts.length : Int) ≤ 4) && realmOk p.realm
def samePrin (p q : Prin) : Bool := decide (p.realm = q.realm) && decide (p.parts = q.parts)

theorem le_max {n : Nat} (h : n ≤ lim) : n ≤ maxLen := by unfold lim at h; unfold maxLen; omega
theorem lall_step {α : Type} {p : α → Bool} (l : List α) (k : Nat) (h : k < l.length) (h1 : (l.take k).all p = true) (h2 : p l[k] = true) : (l.take (k + 1)).all p = true := by
  rw [List.take_succ_eq_append_getElem h, List.all_append, h1]; simp [h2]
theorem lall_no {α : Type} {p : α → Bool} (l : List α) (k : Nat) (h : k < l.length) (h2 : p l[k] = false) : l.all p = false := by
  rw [List.all_eq_false]; exact ⟨l[k], List.getElem_mem h, by simp [h2]⟩
theorem lall_end {α : Type} {p : α → Bool} (l : List α) (k : Nat) (h : l.length ≤ k) (h1 : (l.take k).all p = true) : l.all p = true := by
  rwa [List.take_of_length_le h] at h1
theorem realmAt_at (s : ByteArray) (k : Nat) (h : k < s.size) : realmAt s k = (realmB s[k] && !(dotB s[k] && (k == 0 || k + 1 == s.size || (s.data.toList[k - 1]?).any dotB))) := by
  unfold realmAt; rw [bget s k h]
theorem realm_no (s : ByteArray) (k : Nat) (h : k < s.size) (hn : realmAt s k = false) : realmOk s = false := by
  have : (List.range s.size).all (realmAt s) = false := by rw [List.all_eq_false]; exact ⟨k, List.mem_range.2 h, by simp [hn]⟩
  rw [realmOk, this]; rfl
theorem realm_step (s : ByteArray) (k : Nat) (h : (List.range k).all (realmAt s) = true) (hn : realmAt s k = true) : (List.range (k + 1)).all (realmAt s) = true := by
  rw [List.range_succ, List.all_append, h]; simp [hn]
theorem realm_end (s : ByteArray) (k : Nat) (hk : k = s.size) (h : (List.range k).all (realmAt s) = true) : realmOk s = sized s := by
  subst hk; rw [realmOk, h]; rfl
/-- The ways that a byte goes. -/
theorem byte_ways (c : Int) : c = 46 ∨ c = 45 ∨ (65 ≤ c ∧ c ≤ 90) ∨ (48 ≤ c ∧ c ≤ 57) ∨ c < 45 ∨ c = 47 ∨ (57 < c ∧ c < 65) ∨ 90 < c := by omega
theorem realmB_yes {c : UInt8} (h : (c.toNat : Int) = 46 ∨ (c.toNat : Int) = 45 ∨ (65 ≤ (c.toNat : Int) ∧ (c.toNat : Int) ≤ 90) ∨ (48 ≤ (c.toNat : Int) ∧ (c.toNat : Int) ≤ 57)) : realmB c = true := by
  unfold realmB; simp; omega
theorem realmB_no {c : UInt8} (h : (c.toNat : Int) < 45 ∨ (c.toNat : Int) = 47 ∨ (57 < (c.toNat : Int) ∧ (c.toNat : Int) < 65) ∨ 90 < (c.toNat : Int)) : realmB c = false := by
  unfold realmB; simp; omega
theorem dotB_no {c : UInt8} (h : ¬ (c.toNat : Int) = 46) : dotB c = false := by unfold dotB; simpa using h
theorem dotB_yes {c : UInt8} (h : (c.toNat : Int) = 46) : dotB c = true := by unfold dotB; simpa using h
theorem realmAt_no {s : ByteArray} {k : Nat} (hk : k < s.size) (h : realmB s[k] = false) : realmAt s k = false := by rw [realmAt_at s k hk, h]; rfl
theorem realmAt_plain {s : ByteArray} {k : Nat} (hk : k < s.size) (h : realmB s[k] = true) (h' : dotB s[k] = false) : realmAt s k = true := by rw [realmAt_at s k hk, h, h']; rfl
theorem realmAt_dot {s : ByteArray} {k : Nat} (hk : k < s.size) (h' : dotB s[k] = true) : realmAt s k = !(k == 0 || k + 1 == s.size || (s.data.toList[k - 1]?).any dotB) := by
  have : realmB s[k] = true := realmB_yes (.inl (by unfold dotB at h'; simpa using h'))
  rw [realmAt_at s k hk, this, h']; rfl
theorem isPart_no1 {s : ByteArray} (h : ((s.size : Int) < 1 ∨ 32 < (s.size : Int)) ∨ (!visible s) = true) : isPart s = false := by
  unfold isPart sized
  rcases h with h | h
  · have : (decide (1 ≤ (s.size : Int)) && decide ((s.size : Int) ≤ 32)) = false := by simp; omega
    rw [this]; simp
  · have : visible s = false := by simpa using h
    rw [this]; rfl
theorem isPart_no2 {s : ByteArray} (h : 32 < (s.size : Int)) : isPart s = false := isPart_no1 (.inl (.inr h))
theorem isPart_no3 {s : ByteArray} (h : (s.size : Int) < 1) : isPart s = false := isPart_no1 (.inl (.inl h))
theorem isPart_yes {s : ByteArray} (h : (1 ≤ (s.size : Int) ∧ (s.size : Int) ≤ 32) ∧ (!visible s) = false) : isPart s = true := by
  have : visible s = true := by simpa using h.2
  unfold isPart sized; rw [this]; simp [h.1]
theorem prin_no {p : Prin} (k : Nat) (hlt : k < p.parts.length) (h : isPart p.parts[k] = false) : prinOk p = false := by rw [prinOk, lall_no p.parts k hlt h]; rfl
theorem prin_end1 {p : Prin} (h : p.parts.all isPart = true) (h1 : 1 ≤ (p.parts.length : Int)) (h2 : (p.parts.length : Int) ≤ 4) : prinOk p = realmOk p.realm := by simp [prinOk, h, h1, h2]
theorem prin_end2 {p : Prin} (h2 : 4 < (p.parts.length : Int)) : prinOk p = false := by
  have : decide ((p.parts.length : Int) ≤ 4) = false := by simp; omega
  simp [prinOk, this]
theorem prin_end3 {p : Prin} (h2 : (p.parts.length : Int) < 1) : prinOk p = false := by
  have : decide (1 ≤ (p.parts.length : Int)) = false := by simp; omega
  simp [prinOk, this]
end Go.WW
namespace Go.Proofs.YthbialpbkpiekaaGreatDoor
open Go.RowKit Go.WW

end Go.Proofs.YthbialpbkpiekaaGreatDoor
/- Contracts: equality of principals. -/
namespace Go.WW
theorem str_eq (a b : ByteArray) (h : a = b) : (a.toList == b.toList) = true := by subst h; simp
theorem str_ne (a b : ByteArray) (h : ¬ a = b) : (a.toList == b.toList) = false := by
  rw [ByteArray.toList_eq, ByteArray.toList_eq, beq_eq_false_iff_ne]
  exact fun e => h (WideShapes.bytes_inj e)
theorem same_no1 {p q : Prin} (h : ¬ p.realm = q.realm) : samePrin p q = false := by simp [samePrin, h]
theorem same_no2 {p q : Prin} (h : ¬ p.parts.length = q.parts.length) : samePrin p q = false := by
  have : decide (p.parts = q.parts) = false := by simp; intro e; exact h (by rw [e])
  simp [samePrin, this]
theorem same_no3 {p q : Prin} (k : Nat) (h1 : k < p.parts.length) (h2 : k < q.parts.length) (h : ¬ p.parts[k] = q.parts[k]) : samePrin p q = false := by
  have : decide (p.parts = q.parts) = false := by simp; intro e; exact h (by simp [e])
  simp [samePrin, this]
theorem same_yes {p q : Prin} (k : Nat) (hr : p.realm = q.realm) (h1 : p.parts.length ≤ k) (h2 : q.parts.length ≤ k) (h : p.parts.take k = q.parts.take k) : samePrin p q = true := by
  rw [List.take_of_length_le h1, List.take_of_length_le h2] at h
  simp [samePrin, hr, h]
theorem take_step {α : Type} {l m : List α} (k : Nat) (h1 : k < l.length) (h2 : k < m.length) (h : l.take k = m.take k) (he : l[k] = m[k]) : l.take (k + 1) = m.take (k + 1) := by
  rw [List.take_succ_eq_append_getElem h1, List.take_succ_eq_append_getElem h2, h, he]
end Go.WW
namespace Go.Proofs.YthbialpbkpiekaaGreatDoor
open Go.RowKit Go.WW

end Go.Proofs.YthbialpbkpiekaaGreatDoor
/- The reference's database, in plain terms and in memory. Printed by wip/src/gendb.py. -/
namespace Go.WW
open Go.RowKit
/-- A database: a realm, a serial number, the entries and the policies. -/
structure Db where
  realm : ByteArray
  serial : Int
  entries : List Entry
  policies : List Policy

/-- The cells of a value. -/
def rdbC (e p : Sl) (D : Db) : Array Value := #[.string D.realm, .int .i64 D.serial, .slice e.a D.entries.length e.cap, .slice p.a D.policies.length p.cap]
theorem rdbC_size (e p : Sl) (D : Db) : (rdbC e p D).size = 4 := by simp [rdbC]
theorem rdbC_lt (e p : Sl) (D : Db) (j : Nat) (h : j < 4) : j < (rdbC e p D).size := h
theorem rdbC_one (e p : Sl) (D : Db) : allOne (rdbC e p D) = true := by simp [allOne, rdbC, Value.oneCell']
theorem rdbC_0 (e p : Sl) (D : Db) : (rdbC e p D)[0]? = some (.string D.realm) := by simp [rdbC]
theorem rdbC_g0 (e p : Sl) (D : Db) (h : 0 < (rdbC e p D).size) : (rdbC e p D)[0]'h = .string D.realm := by simp [rdbC]
theorem rdbC_1 (e p : Sl) (D : Db) : (rdbC e p D)[1]? = some (.int .i64 D.serial) := by simp [rdbC]
theorem rdbC_g1 (e p : Sl) (D : Db) (h : 1 < (rdbC e p D).size) : (rdbC e p D)[1]'h = .int .i64 D.serial := by simp [rdbC]
theorem rdbC_2 (e p : Sl) (D : Db) : (rdbC e p D)[2]? = some (.slice e.a D.entries.length e.cap) := by simp [rdbC]
theorem rdbC_g2 (e p : Sl) (D : Db) (h : 2 < (rdbC e p D).size) : (rdbC e p D)[2]'h = .slice e.a D.entries.length e.cap := by simp [rdbC]
theorem rdbC_3 (e p : Sl) (D : Db) : (rdbC e p D)[3]? = some (.slice p.a D.policies.length p.cap) := by simp [rdbC]
theorem rdbC_g3 (e p : Sl) (D : Db) (h : 3 < (rdbC e p D).size) : (rdbC e p D)[3]'h = .slice p.a D.policies.length p.cap := by simp [rdbC]
theorem rdbC_set1 (e p : Sl) (D : Db) (v : Int) : (rdbC e p D).setIfInBounds 1 (.int .i64 v) = rdbC e p { D with serial := v } := by kernel_rfl
theorem rdbC_setE (e p : Sl) (D : Db) (s : Sl) (l : List Entry) : (rdbC e p D).setIfInBounds 2 (.slice s.a l.length s.cap) = rdbC s p { D with entries := l } := by kernel_rfl
theorem rdbC_setP (e p : Sl) (D : Db) (s : Sl) (l : List Policy) : (rdbC e p D).setIfInBounds 3 (.slice s.a l.length s.cap) = rdbC e s { D with policies := l } := by kernel_rfl
attribute [go_sem] rdbC_size rdbC_one rdbC_0 rdbC_g0 rdbC_1 rdbC_g1 rdbC_2 rdbC_g2 rdbC_3 rdbC_g3 rdbC_set1
/-- A list of entries, of policies in memory. -/
def EntsAt (w : World) (a : Option Addr) (l : List Entry) : Prop := RowsAt w 17 a l.length fun i cs => ∃ d r, l[i]? = some d ∧ cs = entC r d ∧ EntAt w r d
def PolsAt (w : World) (a : Option Addr) (l : List Policy) : Prop := RowsAt w 10 a l.length fun i cs => ∃ p, l[i]? = some p ∧ cs = polC p ∧ p.name.size ≤ lim
theorem EntsAt.later {w w' : World} (h : Below w.heap.size w w') {a : Option Addr} {l : List Entry} (x : EntsAt w a l) : EntsAt w' a l := RowsAt.later h (fun _ _ ⟨d, r, y1, y2, y3⟩ => ⟨d, r, y1, y2, y3.later h⟩) x
theorem PolsAt.later {w w' : World} (h : Below w.heap.size w w') {a : Option Addr} {l : List Policy} (x : PolsAt w a l) : PolsAt w' a l := RowsAt.later h (fun _ _ y => y) x
theorem EntsAt.get {w : World} {a : Option Addr} {l : List Entry} (x : EntsAt w a l) (i : Nat) (h : i < l.length) : ∃ b o r, a = some ⟨b, o, none⟩ ∧ row? w b (o + i * 17) 17 = some (entC r l[i]) ∧ EntAt w r l[i] := by
  obtain ⟨b, o, v, h1, h2, d, r, h3, rfl, h4⟩ := x.2 i h
  rw [List.getElem?_eq_getElem h] at h3; cases h3
  exact ⟨b, o, r, h1, h2, h4⟩
theorem PolsAt.get {w : World} {a : Option Addr} {l : List Policy} (x : PolsAt w a l) (i : Nat) (h : i < l.length) : ∃ b o, a = some ⟨b, o, none⟩ ∧ row? w b (o + i * 10) 10 = some (polC l[i]) ∧ l[i].name.size ≤ lim := by
  obtain ⟨b, o, v, h1, h2, d, h3, rfl, h4⟩ := x.2 i h
  rw [List.getElem?_eq_getElem h] at h3; cases h3
  exact ⟨b, o, h1, h2, h4⟩
theorem EntsAt.at {w : World} {b o : Nat} {l : List Entry} (x : EntsAt w (some ⟨b, o, none⟩) l) (i : Nat) (h : i < l.length) : ∃ r, row? w b (o + i * 17) 17 = some (entC r l[i]) ∧ EntAt w r l[i] := by
  obtain ⟨b', o', r, ha, hc⟩ := x.get i h; cases ha; exact ⟨r, hc⟩
theorem PolsAt.at {w : World} {b o : Nat} {l : List Policy} (x : PolsAt w (some ⟨b, o, none⟩) l) (i : Nat) (h : i < l.length) : row? w b (o + i * 10) 10 = some (polC l[i]) ∧ l[i].name.size ≤ lim := by
  obtain ⟨b', o', ha, hc⟩ := x.get i h; cases ha; exact hc
end Go.WW
namespace Go.Proofs.YthbialpbkpiekaaGreatDoor
open Go.RowKit Go.WW
end Go.Proofs.YthbialpbkpiekaaGreatDoor
/- The comparison of principals round by round, in plain terms. -/
namespace Go.WW
/-- What a comparison knows at part i: c is the answer, or the parts before i are the same. -/
def CmpAt (p q : Prin) (i : Nat) (c : Int) : Prop := cmpPrin p q = if c = 0 then cmpParts (p.parts.drop i) (q.parts.drop i) else c
theorem cmpAt_start (p q : Prin) : CmpAt p q 0 (cmpT p.realm q.realm) := rfl
theorem cmpAt_step {p q : Prin} {i : Nat} (h : CmpAt p q i 0) (hp : i < p.parts.length) (hq : i < q.parts.length) : CmpAt p q (i + 1) (cmpT p.parts[i] q.parts[i]) := by
  unfold CmpAt at h ⊢
  rw [if_pos rfl, List.drop_eq_getElem_cons hp, List.drop_eq_getElem_cons hq] at h
  exact h
theorem cmpAt_done {p q : Prin} {i : Nat} {c : Int} (h : CmpAt p q i c) (hc : c ≠ 0) : cmpPrin p q = c := by
  unfold CmpAt at h; rwa [if_neg hc] at h
theorem cmpAt_less {p q : Prin} {i : Nat} (h : CmpAt p q i 0) (hp : p.parts.length ≤ i) (hq : i < q.parts.length) : cmpPrin p q = -1 := by
  unfold CmpAt at h
  rw [if_pos rfl, List.drop_of_length_le hp, List.drop_eq_getElem_cons hq] at h
  exact h
theorem cmpAt_more {p q : Prin} {i : Nat} (h : CmpAt p q i 0) (hp : i < p.parts.length) (hq : q.parts.length ≤ i) : cmpPrin p q = 1 := by
  unfold CmpAt at h
  rw [if_pos rfl, List.drop_of_length_le hq, List.drop_eq_getElem_cons hp] at h
  exact h
theorem cmpAt_same {p q : Prin} {i : Nat} (h : CmpAt p q i 0) (hp : p.parts.length ≤ i) (hq : q.parts.length ≤ i) : cmpPrin p q = 0 := by
  unfold CmpAt at h
  rw [if_pos rfl, List.drop_of_length_le hp, List.drop_of_length_le hq] at h
  exact h
theorem cmpT_less {a b : ByteArray} (h : Op.bytesLess a.toList b.toList = true) : cmpT a b = -1 := by rw [cmpT, if_pos h]
theorem cmpT_more {a b : ByteArray} (h : Op.bytesLess a.toList b.toList = false) (he : ¬ a = b) : cmpT a b = 1 := by
  have h2 : Op.bytesLess b.toList a.toList = true := by
    cases h2 : Op.bytesLess b.toList a.toList
    · exact absurd (toList_inj (bl_total _ _ h h2)) he
    · rfl
  rw [cmpT, h, h2]; rfl
theorem cmpT_same (a : ByteArray) : cmpT a a = 0 := (cmpT_total.zero a a).2 rfl
/-- The names of an entry. -/
def hasN (d : Entry) (p : Prin) : Bool := d.aliases.any (fun a => samePrin a p) || samePrin d.name p
end Go.WW
/- Contracts of the reference's database: the order of principals, the look-ups. -/
namespace Go.WW
/-- The number of the first element that is such, or -1. -/
def idxOf {α : Type} (f : α → Bool) (l : List α) : Int := match l.findIdx? f with | some i => (i : Int) | none => -1
theorem idxOf_found {α : Type} {f : α → Bool} {l : List α} (k : Nat) (hk : k < l.length) (h : (l.take k).all (fun x => !f x) = true) (hf : f l[k] = true) : idxOf f l = (k : Int) := by
  have : l.findIdx? f = some k := by
    rw [List.findIdx?_eq_some_iff_getElem]
    refine ⟨hk, hf, fun j hj => ?_⟩
    have := List.all_eq_true.1 h (l[j]'(by omega)) (by rw [List.mem_iff_getElem]; exact ⟨j, by simp; omega, by simp⟩)
    simpa using this
  rw [idxOf, this]
theorem idxOf_none {α : Type} {f : α → Bool} {l : List α} (k : Nat) (hk : l.length ≤ k) (h : (l.take k).all (fun x => !f x) = true) : idxOf f l = -1 := by
  have : l.findIdx? f = none := by
    rw [List.findIdx?_eq_none_iff]
    intro x hx
    rw [List.take_of_length_le hk] at h
    simpa using List.all_eq_true.1 h x hx
  rw [idxOf, this]
theorem any_yes {α : Type} {f : α → Bool} {l : List α} (k : Nat) (hk : k < l.length) (hf : f l[k] = true) : l.any f = true := List.any_eq_true.2 ⟨l[k], List.getElem_mem hk, hf⟩
theorem any_no {α : Type} {f : α → Bool} {l : List α} (k : Nat) (hk : l.length ≤ k) (h : (l.take k).all (fun x => !f x) = true) : l.any f = false := by
  rw [List.take_of_length_le hk] at h
  rw [List.any_eq_false]
  intro x hx
  have := List.all_eq_true.1 h x hx
  simpa using this
theorem str_eq' {a b : ByteArray} : (a.toList == b.toList) = decide (a = b) := by
  by_cases h : a = b
  · rw [decide_eq_true h]; exact str_eq _ _ h
  · rw [decide_eq_false h]; exact str_ne _ _ h
end Go.WW
namespace Go.Proofs.YthbialpbkpiekaaGreatDoor
open Go.RowKit Go.WW
end Go.Proofs.YthbialpbkpiekaaGreatDoor
/- Contracts of the reference's database: Named, Policy. -/
namespace Go.WW
open Go.RowKit
theorem row?_sub {w : World} {b o n : Nat} {cs : Array Value} (h : row? w b o n = some cs) {j m : Nat} (hj : j + m ≤ n) : row? w b (o + j) m = subRow cs j m := by
  have hs := row?_size h
  unfold row? at h ⊢
  cases hb : w.heap[b]? with
  | none => rw [hb] at h; simp at h
  | some ob =>
    rw [hb] at h
    cases ob with
    | cells c t f =>
      dsimp only at h ⊢
      by_cases hn : o + n ≤ c.size
      · rw [if_pos hn] at h
        injection h with h
        rw [if_pos (by omega)]
        unfold subRow
        rw [if_pos (by omega), ← h, Array.extract_extract]
        congr 2
        omega
      · rw [if_neg hn] at h; cases h
    | _ => simp at h
theorem ent_name_row {w : World} {b o : Nat} {r : ERaw} {d : Entry} (h : row? w b o 17 = some (entC r d)) : row? w b o 2 = some (prinC r.parts d.name) := by
  have := row?_sub h (j := 0) (m := 2) (by omega)
  rw [Nat.add_zero] at this
  rw [this]; exact entC_name r d
end Go.WW
namespace Go.Proofs.YthbialpbkpiekaaGreatDoor
open Go.RowKit Go.WW
end Go.Proofs.YthbialpbkpiekaaGreatDoor
