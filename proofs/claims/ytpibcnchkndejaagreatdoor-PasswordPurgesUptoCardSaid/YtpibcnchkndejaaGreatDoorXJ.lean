/- The order of principals, in plain terms. -/
import Derived.Test.YtpibcnchkndejaaGreatDoorXA
import Derived.Carry
import Derived.WideMake
import Derived.RangeFuncOwn
import Derived.Maps.RangeRun
namespace Go.WW
/-- A comparison by which any two that are not the same have an order. -/
structure TotalCmp {α : Type} (c : α → α → Int) : Prop where
  zero : ∀ a b, c a b = 0 ↔ a = b
  anti : ∀ a b, c b a = - c a b
  trans : ∀ a b d, c a b < 0 → c b d < 0 → c a d < 0
theorem bl_irrefl : ∀ l : List UInt8, Op.bytesLess l l = false
  | [] => rfl
  | a :: l => by simp [Op.bytesLess, bl_irrefl l]
theorem bl_total : ∀ a b : List UInt8, Op.bytesLess a b = false → Op.bytesLess b a = false → a = b
  | [], [], _, _ => rfl
  | [], _ :: _, h, _ => by simp [Op.bytesLess] at h
  | _ :: _, [], _, h => by simp [Op.bytesLess] at h
  | a :: x, b :: y, h, h' => by
    simp only [Op.bytesLess, Bool.or_eq_false_iff, decide_eq_false_iff_not, Bool.and_eq_false_iff] at h h'
    have e : a = b := UInt8.le_antisymm (UInt8.not_lt.1 h'.1) (UInt8.not_lt.1 h.1)
    subst e
    have h1 : Op.bytesLess x y = false := by rcases h.2 with h | h; simp at h; exact h
    have h2 : Op.bytesLess y x = false := by rcases h'.2 with h | h; simp at h; exact h
    rw [bl_total x y h1 h2]
theorem bl_trans : ∀ a b d : List UInt8, Op.bytesLess a b = true → Op.bytesLess b d = true → Op.bytesLess a d = true
  | _, [], _, h, _ => by simp [Op.bytesLess] at h
  | _, _ :: _, [], _, h => by simp [Op.bytesLess] at h
  | [], _ :: _, _ :: _, _, _ => rfl
  | a :: x, b :: y, d :: z, h, h' => by
    simp only [Op.bytesLess, Bool.or_eq_true, decide_eq_true_eq, Bool.and_eq_true, beq_iff_eq] at h h' ⊢
    rcases h with h | ⟨rfl, h⟩
    · rcases h' with h' | ⟨rfl, h'⟩
      · exact .inl (UInt8.lt_trans h h')
      · exact .inl h
    · rcases h' with h' | ⟨rfl, h'⟩
      · exact .inl h'
      · exact .inr ⟨rfl, bl_trans x y z h h'⟩
/-- The order of two strings, as the library numbers it. -/
def cmpT (a b : ByteArray) : Int := if Op.bytesLess a.toList b.toList then -1 else if Op.bytesLess b.toList a.toList then 1 else 0
theorem toList_inj {a b : ByteArray} (h : a.toList = b.toList) : a = b := by
  rw [ByteArray.toList_eq, ByteArray.toList_eq] at h; exact WideShapes.bytes_inj h
theorem cmpT_total : TotalCmp cmpT where
  zero a b := by
    unfold cmpT
    constructor
    · intro h
      split at h
      · omega
      · split at h
        · omega
        · rename_i h1 h2
          exact toList_inj (bl_total _ _ (by simpa using h1) (by simpa using h2))
    · rintro rfl; simp [bl_irrefl]
  anti a b := by
    unfold cmpT
    cases h1 : Op.bytesLess a.toList b.toList <;> cases h2 : Op.bytesLess b.toList a.toList <;> simp
    have := bl_trans _ _ _ h1 h2
    rw [bl_irrefl] at this; cases this
  trans a b d h1 h2 := by
    unfold cmpT at *
    have e1 : Op.bytesLess a.toList b.toList = true := by
      cases h : Op.bytesLess a.toList b.toList
      · rw [h] at h1; cases h' : Op.bytesLess b.toList a.toList <;> rw [h'] at h1 <;> simp at h1
      · rfl
    have e2 : Op.bytesLess b.toList d.toList = true := by
      cases h : Op.bytesLess b.toList d.toList
      · rw [h] at h2; cases h' : Op.bytesLess d.toList b.toList <;> rw [h'] at h2 <;> simp at h2
      · rfl
    rw [bl_trans _ _ _ e1 e2]; simp
/-- The order of two lists, by their first elements that differ. -/
def cmpL {α : Type} (c : α → α → Int) : List α → List α → Int
  | [], [] => 0
  | [], _ :: _ => -1
  | _ :: _, [] => 1
  | a :: x, b :: y => if c a b = 0 then cmpL c x y else c a b
theorem cmpL_total {α : Type} {c : α → α → Int} (h : TotalCmp c) : TotalCmp (cmpL c) where
  zero a := by
    induction a with
    | nil => intro b; cases b <;> simp [cmpL]
    | cons a x ih =>
      intro b
      cases b with
      | nil => simp [cmpL]
      | cons b y =>
        unfold cmpL
        by_cases e : c a b = 0
        · rw [if_pos e, ih]; rw [h.zero] at e; simp [e]
        · rw [if_neg e]
          constructor
          · intro h'; exact absurd h' e
          · intro h'; injection h' with h1 h2; exact absurd ((h.zero a b).2 h1) e
  anti a := by
    induction a with
    | nil => intro b; cases b <;> simp [cmpL]
    | cons a x ih =>
      intro b
      cases b with
      | nil => simp [cmpL]
      | cons b y =>
        unfold cmpL
        rw [h.anti a b]
        by_cases e : c a b = 0
        · rw [if_pos e, if_pos (by omega), ih]
        · rw [if_neg e, if_neg (by omega)]
  trans a := by
    induction a with
    | nil => intro b d; cases b <;> cases d <;> simp [cmpL]
    | cons a x ih =>
      intro b d
      cases b with
      | nil => simp [cmpL]
      | cons b y =>
        cases d with
        | nil => intro _ h2; simp [cmpL] at h2
        | cons d z =>
          unfold cmpL
          by_cases e : c a b = 0
          · rw [if_pos e]
            rw [h.zero] at e; subst e
            by_cases e2 : c a d = 0
            · rw [if_pos e2, if_pos e2]; exact ih y z
            · rw [if_neg e2, if_neg e2]; intro _ h2; exact h2
          · rw [if_neg e]
            by_cases e2 : c b d = 0
            · rw [if_pos e2]
              rw [h.zero] at e2; subst e2
              rw [if_neg e]; intro h1 _; exact h1
            · rw [if_neg e2]
              intro h1 h2
              have h3 := h.trans _ _ _ h1 h2
              rw [if_neg (by omega)]; exact h3
def cmpParts : List ByteArray → List ByteArray → Int := cmpL cmpT
/-- The order of two principals. -/
def cmpPrin (p q : Prin) : Int := if cmpT p.realm q.realm = 0 then cmpParts p.parts q.parts else cmpT p.realm q.realm
theorem cmpPrin_total : TotalCmp cmpPrin where
  zero p q := by
    have h1 := cmpT_total.zero p.realm q.realm
    have h2 := (cmpL_total cmpT_total).zero p.parts q.parts
    unfold cmpPrin
    by_cases e : cmpT p.realm q.realm = 0
    · rw [if_pos e]; show cmpL cmpT p.parts q.parts = 0 ↔ _
      rw [h2]
      rw [h1] at e
      cases p; cases q; simp_all
    · rw [if_neg e]
      constructor
      · intro h; exact absurd h e
      · rintro rfl; exact absurd (h1.2 rfl) e
  anti p q := by
    unfold cmpPrin
    rw [cmpT_total.anti p.realm q.realm]
    by_cases e : cmpT p.realm q.realm = 0
    · rw [if_pos e, if_pos (by omega)]; exact (cmpL_total cmpT_total).anti _ _
    · rw [if_neg e, if_neg (by omega)]
  trans p q t := by
    unfold cmpPrin
    by_cases e : cmpT p.realm q.realm = 0
    · rw [if_pos e]
      rw [cmpT_total.zero] at e; rw [e]
      by_cases e2 : cmpT q.realm t.realm = 0
      · rw [if_pos e2, if_pos e2]; exact (cmpL_total cmpT_total).trans _ _ _
      · rw [if_neg e2, if_neg e2]; intro _ h; exact h
    · rw [if_neg e]
      by_cases e2 : cmpT q.realm t.realm = 0
      · rw [if_pos e2]
        rw [cmpT_total.zero] at e2; rw [← e2, if_neg e]
        intro h _; exact h
      · rw [if_neg e2]
        intro h1 h2
        have h3 := cmpT_total.trans _ _ _ h1 h2
        rw [if_neg (by omega)]; exact h3
end Go.WW
/- Lists in order, in plain terms: a sorted list is one, whatever the order in which its elements came. -/
namespace Go.WW
section
variable {α β : Type} {c : β → β → Int} (k : α → β)
/-- Strictly in order by a key. -/
def Sorted (c : β → β → Int) (k : α → β) (l : List α) : Prop := l.Pairwise fun a b => c (k a) (k b) < 0
/-- A further element in its place. -/
def insertBy (c : β → β → Int) (k : α → β) (e : α) : List α → List α
  | [] => [e]
  | d :: l => if c (k e) (k d) < 0 then e :: d :: l else d :: insertBy c k e l
theorem insertBy_perm (e : α) : ∀ l : List α, (insertBy c k e l).Perm (e :: l)
  | [] => List.Perm.refl _
  | d :: l => by
    unfold insertBy
    split
    · exact List.Perm.refl _
    · exact ((insertBy_perm e l).cons d).trans (List.Perm.swap e d l)
theorem insertBy_sorted (h : TotalCmp c) (e : α) : ∀ l : List α, Sorted c k l → (∀ d ∈ l, k d ≠ k e) → Sorted c k (insertBy c k e l)
  | [], _, _ => by simp [insertBy, Sorted]
  | d :: l, hs, hn => by
    have hs' := List.pairwise_cons.1 hs
    unfold insertBy
    split
    · rename_i hlt
      refine List.pairwise_cons.2 ⟨fun x hx => ?_, hs⟩
      rcases List.mem_cons.1 hx with rfl | hx
      · exact hlt
      · exact h.trans _ _ _ hlt (hs'.1 x hx)
    · rename_i hge
      refine List.pairwise_cons.2 ⟨fun x hx => ?_, insertBy_sorted h e l hs'.2 (fun y hy => hn y (by simp [hy]))⟩
      have hx' := (insertBy_perm k e l).mem_iff.1 hx
      rcases List.mem_cons.1 hx' with rfl | hx
      · have h0 : c (k d) (k x) ≠ 0 := fun e0 => hn d (by simp) ((h.zero _ _).1 e0)
        have h1 := h.anti (k d) (k x)
        omega
      · exact hs'.1 x hx
theorem sorted_eq (h : TotalCmp c) : ∀ (l m : List α), Sorted c k l → Sorted c k m → l.Perm m → l = m
  | [], m, _, _, hp => by simp [hp.symm.eq_nil] 
  | a :: l, [], _, _, hp => by simpa using hp.eq_nil
  | a :: l, b :: m, hs, ht, hp => by
    have hs' := List.pairwise_cons.1 hs
    have ht' := List.pairwise_cons.1 ht
    have e : a = b := by
      have ha : a ∈ b :: m := hp.mem_iff.1 (by simp)
      have hb : b ∈ a :: l := hp.mem_iff.2 (by simp)
      rcases List.mem_cons.1 ha with e | ha
      · exact e
      · rcases List.mem_cons.1 hb with e | hb
        · exact e.symm
        · have h1 := ht'.1 a ha
          have h2 := hs'.1 b hb
          have h3 := h.anti (k a) (k b)
          omega
    subst e
    rw [sorted_eq h l m hs'.2 ht'.2 (List.Perm.cons_inv hp)]
theorem sorted_nodup (h : TotalCmp c) {l : List α} (hs : Sorted c k l) : (l.map k).Nodup := by
  rw [List.nodup_iff_pairwise_ne, List.pairwise_map]
  refine hs.imp fun {a b} hab e => ?_
  rw [(h.zero _ _).2 e] at hab; omega
end
end Go.WW
/- Maps keyed by strings, and what may change. -/
namespace Go.WW
open Go.RowKit
/-- All but the blocks S are as they were. -/
structure But (S : Nat → Prop) (w w' : World) : Prop where
  os : w'.os = w.os
  tape : w'.tape = w.tape
  output : w'.output = w.output
  size : w.heap.size ≤ w'.heap.size
  block : ∀ k, k < w.heap.size → ¬ S k → w'.heap[k]? = w.heap[k]?
theorem But.refl (S : Nat → Prop) (w : World) : But S w w := ⟨rfl, rfl, rfl, Nat.le_refl _, fun _ _ _ => rfl⟩
theorem But.trans {S : Nat → Prop} {a b c : World} (h : But S a b) (k : But S b c) : But S a c :=
  ⟨k.os.trans h.os, k.tape.trans h.tape, k.output.trans h.output, Nat.le_trans h.size k.size, fun i hi hS => (k.block i (Nat.lt_of_lt_of_le hi h.size) hS).trans (h.block i hi hS)⟩
theorem But.of_below {S : Nat → Prop} {w w' : World} (h : Below w.heap.size w w') : But S w w' := ⟨h.os, h.tape, h.output, h.size, fun k hk _ => h.block k hk⟩
theorem But.mono {S S' : Nat → Prop} {w w' : World} (h : But S w w') (hS : ∀ k, S k → S' k) : But S' w w' := ⟨h.os, h.tape, h.output, h.size, fun k hk hn => h.block k hk (fun x => hn (hS k x))⟩
theorem But.below {S : Nat → Prop} {w w' : World} {n : Nat} (h : But S w w') (hn : n ≤ w.heap.size) (hS : ∀ k, S k → n ≤ k) : Below n w w' :=
  ⟨h.os, h.tape, h.output, h.size, fun k hk => h.block k (Nat.lt_of_lt_of_le hk hn) (fun x => absurd (hS k x) (by omega))⟩
/-- What a map's entries are, in plain terms. -/
structure MapRep (es : Array MapEntry) (clock : Nat) (m : List (ByteArray × Value)) : Prop where
  ents : es.toList.map (fun e => (e.key, e.val)) = m.map (fun x => (Value.string x.1, x.2))
  keys : (m.map (·.1)).Nodup
  born : ∀ e ∈ es.toList, e.born < clock
  once : (es.toList.map (·.born)).Nodup
def MapOf (w : World) (b : Nat) (m : List (ByteArray × Value)) : Prop := ∃ es clock, w.heap[b]? = some (.map es clock) ∧ MapRep es clock m
theorem MapOf.at {w w' : World} {b : Nat} {m : List (ByteArray × Value)} (h : MapOf w b m) (e : w'.heap[b]? = w.heap[b]?) : MapOf w' b m := by
  obtain ⟨es, clock, h1, h2⟩ := h
  exact ⟨es, clock, e.trans h1, h2⟩
theorem MapOf.lt {w : World} {b : Nat} {m : List (ByteArray × Value)} (h : MapOf w b m) : b < w.heap.size := by
  obtain ⟨es, clock, h1, _⟩ := h
  exact (Array.getElem?_eq_some_iff.1 h1).1
theorem same_str (a b : ByteArray) : Instr.sameNow .string (.string a) (.string b) = some (decide (a = b)) := by
  show some (a == b) = _
  congr 1
  by_cases h : a = b
  · rw [decide_eq_true h, (MapKept.bytes_beq a b).2 h]
  · rw [decide_eq_false h, ← Bool.not_eq_true, MapKept.bytes_beq]; exact h
theorem find_no (k : ByteArray) : ∀ (l : List MapEntry) (m : List (ByteArray × Value)) (i : Nat), l.map (fun e => (e.key, e.val)) = m.map (fun x => (Value.string x.1, x.2)) → k ∉ m.map (·.1) → Instr.findNow .string (.string k) l i = some none
  | [], _, _, _, _ => rfl
  | e :: l, [], _, h, _ => by simp at h
  | e :: l, x :: m, i, h, hk => by
    simp only [List.map_cons, List.cons.injEq, Prod.mk.injEq] at h
    unfold Instr.findNow
    have hne : ¬ k = x.1 := fun he => hk (by simp [he])
    rw [h.1.1, same_str, decide_eq_false hne]
    exact find_no k l m (i + 1) h.2 (fun hm => hk (by simp only [List.map_cons, List.mem_cons]; exact .inr hm))
theorem find_yes (k : ByteArray) (v : Value) : ∀ (l : List MapEntry) (m : List (ByteArray × Value)) (i : Nat), l.map (fun e => (e.key, e.val)) = m.map (fun x => (Value.string x.1, x.2)) → (m.map (·.1)).Nodup → (k, v) ∈ m → ∃ j, Instr.findNow .string (.string k) l i = some (some (i + j, v)) ∧ m[j]? = some (k, v)
  | [], m, _, h, _, hv => by cases m with | nil => simp at hv | cons => simp at h
  | e :: l, [], _, h, _, _ => by simp at h
  | e :: l, x :: m, i, h, hn, hv => by
    simp only [List.map_cons, List.cons.injEq, Prod.mk.injEq] at h
    simp only [List.map_cons, List.nodup_cons] at hn
    unfold Instr.findNow
    rw [h.1.1, same_str]
    by_cases he : k = x.1
    · rw [decide_eq_true he]
      have hx : x = (k, v) := by
        rcases List.mem_cons.1 hv with e | hv
        · exact e.symm
        · exact absurd (List.mem_map.2 ⟨(k, v), hv, he⟩) hn.1
      subst hx
      exact ⟨0, by rw [h.1.2]; rfl, rfl⟩
    · rw [decide_eq_false he]
      have hv' : (k, v) ∈ m := by
        rcases List.mem_cons.1 hv with e | hv
        · exact absurd (by rw [← e]) he
        · exact hv
      obtain ⟨j, h1, h2⟩ := find_yes k v l m (i + 1) h.2 hn.2 hv'
      exact ⟨j + 1, by rw [show i + (j + 1) = i + 1 + j by omega]; exact h1, by simpa using h2⟩
section
variable {P : Program} {w : World} {mty kt et : TypeId} {b : Nat} {m : List (ByteArray × Value)} {k : ByteArray}
theorem look_yes {v : Value} (c : Bool) (hm : P.underlying mty = some (.map kt et)) (hd : P.underlying kt = some .string) (h : MapOf w b m) (hv : (k, v) ∈ m) :
    (Instr.lookup mty (.map (some b)) (.string k) c).run P w = .ok (if c then .tuple #[v, .bool true] else v) w := by
  obtain ⟨es, clock, hb, hr⟩ := h
  obtain ⟨j, hf, _⟩ := find_yes k v _ _ 0 hr.ents hr.keys hv
  have hc : (Instr.checkKey es.isEmpty 10000 kt (.string k)).run P w = .ok () w := MapKept.run_checkKey hd (by trivial) _ 9999
  simp [Instr.lookup, run_underlying hm, MapKept.run_getObj_map hb, hc, MapKept.run_findKey hd hf, Result.andThen]
theorem look_no {z : Value} (c : Bool) (hm : P.underlying mty = some (.map kt et)) (hd : P.underlying kt = some .string) (h : MapOf w b m) (hz : (zeroValue et).run P w = .ok z w) (hv : k ∉ m.map (·.1)) :
    (Instr.lookup mty (.map (some b)) (.string k) c).run P w = .ok (if c then .tuple #[z, .bool false] else z) w := by
  obtain ⟨es, clock, hb, hr⟩ := h
  have hf := find_no k _ _ 0 hr.ents hv
  have hc : (Instr.checkKey es.isEmpty 10000 kt (.string k)).run P w = .ok () w := MapKept.run_checkKey hd (by trivial) _ 9999
  simp [Instr.lookup, run_underlying hm, MapKept.run_getObj_map hb, hc, MapKept.run_findKey hd hf, Result.andThen, hz]
def hasK (m : List (ByteArray × Value)) (k : ByteArray) : Bool := m.any fun x => decide (x.1 = k)
theorem hasK_iff (m : List (ByteArray × Value)) (k : ByteArray) : hasK m k = true ↔ k ∈ m.map (·.1) := by simp [hasK]
/-- The map with an element at a key. -/
def setM (m : List (ByteArray × Value)) (k : ByteArray) (v : Value) : List (ByteArray × Value) := if hasK m k = true then m.map (fun x => if x.1 = k then (k, v) else x) else m ++ [(k, v)]
/-- The map without a key. -/
def delM (m : List (ByteArray × Value)) (k : ByteArray) : List (ByteArray × Value) := m.filter fun x => decide (x.1 ≠ k)
theorem putObj_but {w : World} {b : Nat} (o : Obj) : But (· = b) w (w.putObj b o) :=
  ⟨rfl, rfl, rfl, by simp [World.putObj], fun k _ hn => by simp only [World.putObj]; rw [Array.getElem?_setIfInBounds]; simp [Ne.symm (show k ≠ b from hn)]⟩
theorem modify_map (l : List MapEntry) : ∀ (m : List (ByteArray × Value)) (j : Nat) (v : Value), l.map (fun e => (e.key, e.val)) = m.map (fun x => (Value.string x.1, x.2)) → (m.map (·.1)).Nodup → ∀ k v0, m[j]? = some (k, v0) →
    (l.modify j fun e => { e with key := .string k, val := v }).map (fun e => (e.key, e.val)) = (m.map (fun x => if x.1 = k then (k, v) else x)).map (fun x => (Value.string x.1, x.2)) := by
  induction l with
  | nil => intro m j v h; cases m with | nil => simp | cons => simp at h
  | cons e l ih =>
    intro m j v h hn k v0 hj
    cases m with
    | nil => simp at h
    | cons x m =>
      simp only [List.map_cons, List.cons.injEq, Prod.mk.injEq] at h
      simp only [List.map_cons, List.nodup_cons] at hn
      cases j with
      | zero =>
        simp only [List.getElem?_cons_zero, Option.some.injEq] at hj
        subst hj
        have hm : m.map (fun x => if x.1 = k then (k, v) else x) = m := by
          conv => rhs; rw [← List.map_id m]
          refine List.map_congr_left fun y hy => ?_
          have : ¬ y.1 = k := fun e => hn.1 (List.mem_map.2 ⟨y, hy, e⟩)
          simp [this]
        simp [hm, h.2]
      | succ j =>
        simp only [List.getElem?_cons_succ] at hj
        have hne : ¬ x.1 = k := fun e => hn.1 (by
          have := List.mem_of_getElem? hj
          exact List.mem_map.2 ⟨_, this, e.symm⟩)
        simp only [List.modify_succ_cons, List.map_cons, hne, if_false]
        rw [ih m j v h.2 hn.2 k v0 hj, h.1.1, h.1.2]
theorem setM_keys_old {m : List (ByteArray × Value)} {k : ByteArray} {v : Value} : (m.map (fun x => if x.1 = k then (k, v) else x)).map (·.1) = m.map (·.1) := by
  rw [List.map_map]
  refine List.map_congr_left fun x _ => ?_
  simp only [Function.comp]
  split
  · rename_i h; exact h.symm
  · rfl
theorem upd_map {v : Value} (hm : P.underlying mty = some (.map kt et)) (hd : P.underlying kt = some .string) (h : MapOf w b m) :
    ∃ w', (Instr.mapUpdate mty (.map (some b)) (.string k) v).run P w = .ok () w' ∧ MapOf w' b (setM m k v) ∧ But (· = b) w w' ∧ w'.heap.size = w.heap.size := by
  obtain ⟨es, clock, hb, hr⟩ := h
  have hlt := (Array.getElem?_eq_some_iff.1 hb).1
  have hc : (Instr.checkKey false 10000 kt (.string k)).run P w = .ok () w := MapKept.run_checkKey hd (by trivial) _ 9999
  by_cases hk : k ∈ m.map (·.1)
  · obtain ⟨⟨k', v0⟩, hx, rfl⟩ := List.mem_map.1 hk
    obtain ⟨j, hf, hj⟩ := find_yes k' v0 _ _ 0 hr.ents hr.keys hx
    rw [Nat.zero_add] at hf
    have hjl : j < es.toList.length := by
      have h1 := (List.getElem?_eq_some_iff.1 hj).1
      have h2 := congrArg List.length hr.ents
      simp only [List.length_map] at h2
      omega
    have hkey : es[j]?.map (·.key) = some (.string k') := by
      have h2 := congrArg (fun l => (l[j]?).map (·.1)) hr.ents
      simp only [List.getElem?_map, hj, Option.map_map] at h2
      rw [← Array.getElem?_toList]
      simpa [Function.comp] using h2
    have hks : (Instr.keyThatStays (((es[j]?).map (·.key)).getD (.string k')) (.string k')).run P w = .ok (.string k') w := by
      rw [hkey]; exact MapKept.run_keyThatStays (d := .string) (by trivial)
    refine ⟨w.putObj b (.map (es.modify j fun e => { e with key := .string k', val := v }) clock), ?_, ⟨_, clock, World.putObj_heap_same hlt, ?_⟩, putObj_but _, by simp [World.putObj]⟩
    · simp [Instr.mapUpdate, run_underlying hm, MapKept.run_getObj_map hb, hc, MapKept.run_findKey hd hf, hks, MapKept.run_setObj_map _ hb, Result.andThen, World.putObj]
    · unfold setM
      rw [if_pos ((hasK_iff _ _).2 hk)]
      refine ⟨?_, by rw [setM_keys_old]; exact hr.keys, ?_, ?_⟩
      · rw [Array.toList_modify]; exact modify_map _ _ _ _ hr.ents hr.keys k' v0 hj
      · intro e he
        rw [Array.toList_modify] at he
        obtain ⟨i, hi, rfl⟩ := List.mem_iff_getElem.1 he
        rw [List.getElem_modify]
        have hi' : i < es.toList.length := by simpa using hi
        split
        · rename_i e; subst e; exact hr.born es.toList[j] (List.getElem_mem hi')
        · exact hr.born _ (List.getElem_mem hi')
      · have : (es.modify j fun e => { e with key := .string k', val := v }).toList.map (·.born) = es.toList.map (·.born) := by
          rw [Array.toList_modify]
          refine List.ext_getElem (by simp) fun i h1 h2 => ?_
          simp only [List.getElem_map, List.getElem_modify]
          split
          · rename_i e; subst e; rfl
          · rfl
        rw [this]; exact hr.once
  · have hf := find_no k _ _ 0 hr.ents hk
    refine ⟨w.putObj b (.map (es.push { key := .string k, val := v, born := clock }) (clock + 1)), ?_, ⟨_, clock + 1, World.putObj_heap_same hlt, ?_⟩, putObj_but _, by simp [World.putObj]⟩
    · simp [Instr.mapUpdate, run_underlying hm, MapKept.run_getObj_map hb, hc, MapKept.run_findKey hd hf, MapKept.run_setObj_map _ hb, Result.andThen, World.putObj]
    · unfold setM
      rw [if_neg (fun e => hk ((hasK_iff _ _).1 e))]
      refine ⟨by simp [hr.ents], ?_, ?_, ?_⟩
      · rw [List.map_append]
        refine List.nodup_append.2 ⟨hr.keys, by simp, ?_⟩
        intro a ha c hc e
        simp only [List.map_cons, List.map_nil, List.mem_singleton] at hc
        exact hk (by rw [← hc, ← e]; exact ha)
      · intro e he
        simp only [Array.toList_push, List.mem_append, List.mem_singleton] at he
        rcases he with he | rfl
        · have := hr.born e he; omega
        · exact Nat.lt_succ_self _
      · simp only [Array.toList_push, List.map_append, List.map_cons, List.map_nil]
        refine List.nodup_append.2 ⟨hr.once, by simp, ?_⟩
        intro a ha c hc e
        simp only [List.mem_singleton] at hc
        obtain ⟨x, hx, rfl⟩ := List.mem_map.1 ha
        have := hr.born x hx
        omega
theorem erase_map (l : List MapEntry) : ∀ (m : List (ByteArray × Value)) (j : Nat), l.map (fun e => (e.key, e.val)) = m.map (fun x => (Value.string x.1, x.2)) → (m.map (·.1)).Nodup → ∀ k v0, m[j]? = some (k, v0) →
    (l.eraseIdx j).map (fun e => (e.key, e.val)) = (delM m k).map (fun x => (Value.string x.1, x.2)) := by
  induction l with
  | nil => intro m j h; cases m with | nil => simp [delM] | cons => simp at h
  | cons e l ih =>
    intro m j h hn k v0 hj
    cases m with
    | nil => simp at h
    | cons x m =>
      simp only [List.map_cons, List.cons.injEq, Prod.mk.injEq] at h
      simp only [List.map_cons, List.nodup_cons] at hn
      cases j with
      | zero =>
        simp only [List.getElem?_cons_zero, Option.some.injEq] at hj
        subst hj
        have hm : delM ((k, v0) :: m) k = m := by
          unfold delM
          rw [List.filter_cons_of_neg (by simp)]
          refine List.filter_eq_self.2 fun y hy => ?_
          have : ¬ y.1 = k := fun e => hn.1 (List.mem_map.2 ⟨y, hy, e⟩)
          simp [this]
        rw [hm]; exact h.2
      | succ j =>
        simp only [List.getElem?_cons_succ] at hj
        have hne : ¬ x.1 = k := fun e => hn.1 (by
          have := List.mem_of_getElem? hj
          exact List.mem_map.2 ⟨_, this, e.symm⟩)
        have hd : delM (x :: m) k = x :: delM m k := by unfold delM; rw [List.filter_cons_of_pos (by simp [hne])]
        rw [hd]
        simp only [List.eraseIdx_cons_succ, List.map_cons]
        rw [ih m j h.2 hn.2 k v0 hj, h.1.1, h.1.2]
theorem delM_none {m : List (ByteArray × Value)} {k : ByteArray} (h : k ∉ m.map (·.1)) : delM m k = m :=
  List.filter_eq_self.2 fun y hy => by have : ¬ y.1 = k := fun e => h (List.mem_map.2 ⟨y, hy, e⟩); simp [this]
theorem del_map {ty : TypeId} {tys : Array TypeId} (ht : tys[0]? = some mty) (hm : P.underlying mty = some (.map kt et)) (hd : P.underlying kt = some .string) (h : MapOf w b m) :
    ∃ w', (Builtin.delete_ tys ty #[.map (some b), .string k]).run P w = .ok (.tuple #[]) w' ∧ MapOf w' b (delM m k) ∧ But (· = b) w w' ∧ w'.heap.size = w.heap.size := by
  obtain ⟨es, clock, hb, hr⟩ := h
  have hlt := (Array.getElem?_eq_some_iff.1 hb).1
  have hc : (Instr.checkKey es.isEmpty 10000 kt (.string k)).run P w = .ok () w := MapKept.run_checkKey hd (by trivial) _ 9999
  by_cases hk : k ∈ m.map (·.1)
  · obtain ⟨⟨k', v0⟩, hx, rfl⟩ := List.mem_map.1 hk
    obtain ⟨j, hf, hj⟩ := find_yes k' v0 _ _ 0 hr.ents hr.keys hx
    rw [Nat.zero_add] at hf
    refine ⟨w.putObj b (.map (es.eraseIdxIfInBounds j) clock), ?_, ⟨_, clock, World.putObj_heap_same hlt, ?_⟩, putObj_but _, by simp [World.putObj]⟩
    · simp [Builtin.delete_, ht, run_underlying hm, MapKept.run_getObj_map hb, hc, MapKept.run_findKey hd hf, MapKept.run_setObj_map _ hb, Result.andThen, World.putObj]
    · have ht : (es.eraseIdxIfInBounds j).toList = es.toList.eraseIdx j := by simp
      refine ⟨by rw [ht]; exact erase_map _ _ _ hr.ents hr.keys k' v0 hj, ?_, ?_, ?_⟩
      · exact (List.filter_sublist.map _).nodup hr.keys
      · intro e he; rw [ht] at he; exact hr.born e (List.mem_of_mem_eraseIdx he)
      · rw [ht]; exact ((List.eraseIdx_sublist _ _).map _).nodup hr.once
  · have hf := find_no k _ _ 0 hr.ents hk
    refine ⟨w.putObj b (.map es clock), ?_, ⟨_, clock, World.putObj_heap_same hlt, by rw [delM_none hk]; exact hr⟩, putObj_but _, by simp [World.putObj]⟩
    simp [Builtin.delete_, ht, run_underlying hm, MapKept.run_getObj_map hb, hc, MapKept.run_findKey hd hf, MapKept.run_setObj_map _ hb, Result.andThen, World.putObj]
theorem MapOf.len (h : MapOf w b m) : ∃ es clock, w.heap[b]? = some (.map es clock) ∧ es.size = m.length := by
  obtain ⟨es, clock, hb, hr⟩ := h
  have h2 := congrArg List.length hr.ents
  simp only [List.length_map, Array.length_toList] at h2
  exact ⟨es, clock, hb, h2⟩
end
end Go.WW
/- A range over a map, in whatever order. -/
namespace Go.WW
open Go.RowKit
/-- The iterator at block i over the map at block b, which holds m; what is left to come. -/
def IterOf (w : World) (i b : Nat) (m left : List (ByteArray × Value)) : Prop :=
  ∃ es clock seen c0, w.heap[i]? = some (.mapIter (some b) clock seen c0) ∧ w.heap[b]? = some (.map es clock) ∧ MapRep es clock m ∧ clock ≤ c0 ∧ (leftOf es seen).toList.map (fun e => (e.key, e.val)) = left.map (fun x => (Value.string x.1, x.2))
theorem IterOf.map {w : World} {i b : Nat} {m left : List (ByteArray × Value)} (h : IterOf w i b m left) : MapOf w b m := by
  obtain ⟨es, clock, seen, c0, h1, h2, h3, h4⟩ := h
  exact ⟨es, clock, h2, h3⟩
theorem IterOf.at {w w' : World} {i b : Nat} {m left : List (ByteArray × Value)} (h : IterOf w i b m left) (e : w'.heap[i]? = w.heap[i]?) (e' : w'.heap[b]? = w.heap[b]?) : IterOf w' i b m left := by
  obtain ⟨es, clock, seen, c0, h1, h2, h3, h4⟩ := h
  exact ⟨es, clock, seen, c0, e.trans h1, e'.trans h2, h3, h4⟩
theorem IterOf.lt {w : World} {i b : Nat} {m left : List (ByteArray × Value)} (h : IterOf w i b m left) : i < w.heap.size := by
  obtain ⟨es, clock, seen, c0, h1, h2, h3, h4⟩ := h
  exact (Array.getElem?_eq_some_iff.1 h1).1
theorem filter_one (l : List MapEntry) (seen : Array Nat) (e : MapEntry) (A B : List MapEntry) (hn : (l.map (·.born)).Nodup) (h : l.filter (fun x => !seen.contains x.born) = A ++ e :: B) : l.filter (fun x => !(seen.push e.born).contains x.born) = A ++ B := by
  have h1 : l.filter (fun x => !(seen.push e.born).contains x.born) = (l.filter (fun x => !seen.contains x.born)).filter (fun x => decide (x.born ≠ e.born)) := by
    rw [List.filter_filter]
    refine List.filter_congr fun x _ => ?_
    simp [Bool.and_comm]
  rw [h1, h, List.filter_append, List.filter_cons_of_neg (by simp)]
  have hs : (A ++ e :: B).Sublist l := by rw [← h]; exact List.filter_sublist
  have hn' := (hs.map (·.born)).nodup hn
  rw [List.map_append, List.map_cons] at hn'
  have hAB := List.nodup_append.1 hn'
  rw [List.filter_eq_self.2, List.filter_eq_self.2]
  · intro x hx
    have := (List.nodup_cons.1 hAB.2.1).1
    simp only [ne_eq, decide_not, Bool.not_eq_eq_eq_not, Bool.not_true, decide_eq_false_iff_not]
    exact fun e' => this (by rw [← e']; exact List.mem_map.2 ⟨x, hx, rfl⟩)
  · intro x hx
    simp only [ne_eq, decide_not, Bool.not_eq_eq_eq_not, Bool.not_true, decide_eq_false_iff_not]
    exact fun e' => hAB.2.2 _ (List.mem_map.2 ⟨x, hx, rfl⟩) _ (by simp) e'
section
variable {P : Program} {w : World} {i b : Nat} {m left : List (ByteArray × Value)}
theorem iter_start {mty kt et : TypeId} (hm : P.underlying mty = some (.map kt et)) (h : MapOf w b m) :
    ∃ w', (Instr.range mty (.map (some b))).run P w = .ok (.pointer (some ⟨w.heap.size, 0, none⟩)) w' ∧ IterOf w' w.heap.size b m m ∧ Below w.heap.size w w' ∧ w'.heap.size = w.heap.size + 1 := by
  obtain ⟨es, clock, hb, hr⟩ := h
  have hlt := (Array.getElem?_eq_some_iff.1 hb).1
  refine ⟨w.alloc (.mapIter (some b) clock #[] clock), run_range_map w mty kt et b es clock hm hb, ⟨es, clock, #[], clock, World.alloc_heap_new _ _, (Below.heap_alloc _ _ _ hlt).trans hb, hr, Nat.le_refl _, ?_⟩, (Below.refl _ w).alloc (Nat.le_refl _) _, by simp⟩
  have : (leftOf es #[]).toList = es.toList := by unfold leftOf; simp
  rw [this]; exact hr.ents
theorem iter_next (ty : TypeId) (h : IterOf w i b m left) :
    (left = [] ∧ (Instr.next (.pointer (some ⟨i, 0, none⟩)) false ty).run P w = .ok (.tuple #[.bool false]) w) ∨
    ∃ l1 x l2 w', left = l1 ++ x :: l2 ∧ (Instr.next (.pointer (some ⟨i, 0, none⟩)) false ty).run P w = .ok (.tuple #[.bool true, .string x.1, x.2]) w' ∧ (Instr.entry (.pointer (some ⟨i, 0, none⟩))).run P w' = .ok (.tuple #[.string x.1, x.2]) w' ∧ IterOf w' i b m (l1 ++ l2) ∧ But (· = i) w w' ∧ w'.heap.size = w.heap.size := by
  obtain ⟨es, clock, seen, c0, h1, h2, h3, h4, h5⟩ := h
  have hib : i ≠ b := fun e => by rw [e, h2] at h1; cases h1
  rcases run_next_at (P := P) w ty i b clock c0 seen es clock h1 h2 h3.born h4 with ⟨h0, hrun⟩ | ⟨e, he, w1, hw1, hrun⟩
  · left
    refine ⟨?_, hrun⟩
    have hl := congrArg List.length h5
    simp only [List.length_map, Array.length_toList] at hl
    exact List.eq_nil_of_length_eq_zero (by omega)
  · right
    obtain ⟨A, B, hAB⟩ := List.append_of_mem he
    rw [hAB, List.map_append, List.map_cons] at h5
    obtain ⟨l1, l', hl, e1, e2⟩ := List.map_eq_append_iff.1 h5.symm
    obtain ⟨x, l2, rfl, e3, e4⟩ := List.map_eq_cons_iff.1 e2
    simp only [Prod.mk.injEq] at e3
    have hlt := (Array.getElem?_eq_some_iff.1 h1).1
    have hheap : w1.heap = w.heap := by rcases hw1 with rfl | rfl <;> rfl
    have hi' : (ChangeMaps.setBlock w1 i (.mapIter (some b) clock (seen.push e.born) clock)).heap[i]? = some (.mapIter (some b) clock (seen.push e.born) clock) := by
      simp only [ChangeMaps.setBlock, hheap]; rw [Array.getElem?_setIfInBounds]; simp [hlt]
    have hb' : (ChangeMaps.setBlock w1 i (.mapIter (some b) clock (seen.push e.born) clock)).heap[b]? = some (.map es clock) := by
      simp only [ChangeMaps.setBlock, hheap]; rw [Array.getElem?_setIfInBounds]; simp [hib, h2]
    have hees : e ∈ es.toList := by
      unfold leftOf at he
      rw [Array.toList_filter] at he
      exact (List.mem_filter.1 he).1
    refine ⟨l1, x, l2, _, hl, by rw [e3.1, e3.2]; exact hrun, ?_, ⟨es, clock, _, clock, hi', hb', h3, Nat.le_refl _, ?_⟩, ?_, by simp [ChangeMaps.setBlock, hheap]⟩
    · rw [e3.1, e3.2]; exact run_entry_at _ i b clock seen es clock e hi' hb' hees h3.once
    · unfold leftOf at hAB ⊢
      rw [Array.toList_filter] at hAB ⊢
      rw [filter_one _ _ _ _ _ h3.once hAB, List.map_append, List.map_append, e1, e4]
    · have ht : w1.tape = w.tape ∧ w1.os = w.os ∧ w1.output = w.output := by rcases hw1 with rfl | rfl <;> exact ⟨rfl, rfl, rfl⟩
      refine ⟨ht.2.1, ht.1, ht.2.2, by simp [ChangeMaps.setBlock, hheap], fun k hk hn => ?_⟩
      simp only [ChangeMaps.setBlock, hheap]
      rw [Array.getElem?_setIfInBounds]
      simp [Ne.symm (show k ≠ i from hn)]
end
end Go.WW
/- A drawn region, one of whose operations writes into a block that was there. -/
namespace Go.WW
open Go.RowKit
theorem But.drew {S : Nat → Prop} {a w : World} (h : But S a w) : But S a w.drew := ⟨h.os, h.tape, h.output, h.size, h.block⟩
theorem But.cell {S : Nat → Prop} {w w' : World} (h : But S w w') {b o : Nat} (hb : b < w.heap.size) (hn : ¬ S b) : w'.cell? ⟨b, o, none⟩ = w.cell? ⟨b, o, none⟩ := World.cell?_of_block (a := ⟨b, o, none⟩) (h.block b hb hn)
section
variable {P : Program} {ops : Array Oper} {S : World → Prop} {Q : Act → World → Prop}
/-- The operations that only look, the nil check among them. -/
def looksN (o : Oper) : Bool := looks o || (match o.op with | .nilCheck _ => true | _ => false)
theorem looksN_value {o : Oper} (h : looksN o = true) (ρ : Operand → Value) (w : World) : (∃ v w', (execOp ρ o).run P w = .ok (.value v) w') ∨ ∃ h w', (execOp ρ o).run P w = .halt h w' := by
  cases hl : looks o
  · obtain ⟨dst, op, type, pos, after, guard⟩ := o
    unfold looksN at h
    rw [hl] at h
    cases op <;> simp at h
    case nilCheck x =>
      simp only [execOp]
      split
      · exact .inr ⟨_, _, rfl⟩
      · exact .inr ⟨_, _, rfl⟩
      · exact .inr ⟨_, _, rfl⟩
      · split
        · exact .inr ⟨_, _, rfl⟩
        · simp only [Sem.run_bind]
          cases (program).run P w with
          | halt h w' => exact .inr ⟨h, w', by simp⟩
          | ok p w1 =>
            dsimp only [Result.andThen]
            cases (nilAhead (p.types.size + Made.depth) _ _ _).run P w1 with
            | halt h w' => exact .inr ⟨h, w', by simp⟩
            | ok c w2 =>
              dsimp only [Result.andThen]
              split
              · exact .inr ⟨_, _, rfl⟩
              · exact .inl ⟨_, _, rfl⟩
        · exact .inl ⟨_, _, rfl⟩
      · exact .inl ⟨_, _, rfl⟩
  · exact looks_value hl ρ w
theorem textN_look {o : Oper} {rest : List Oper} {a : Act} {w : World} (hw : Region.wanted o (yielded ops a.tmps) = true) (hs : looksN o = true)
    (h : ∀ K : Act → Prop, (∀ a', wpText P ops looksN S Q rest a' w → K a') → o.quiet P a S K) : wpText P ops looksN S Q (o :: rest) a w := by
  rw [text_cons, if_pos hw, if_pos hs]
  obtain ⟨v, hv, hh⟩ := h _ (fun _ x => x)
  refine ⟨v, fun w' hw' => ?_, hh⟩
  have := hv w' hw'
  unfold Oper.quietAt at this
  rcases looksN_value (P := P) hs a.eval w' with ⟨u, w'', e⟩ | ⟨x, w'', e⟩
  · rw [e] at this ⊢
    obtain ⟨rfl, rfl⟩ := this
    rfl
  · rw [e] at this
    exact this.elim
theorem textN_act {o : Oper} {rest : List Oper} {a : Act} {w : World} (hw : Region.wanted o (yielded ops a.tmps) = true) (hs : looksN o = false)
    (h : ∀ K : Act → World → Prop, (∀ a' w', S w' → wpText P ops looksN S Q rest a' w' → K a' w') → o.wp P a w K never) : wpText P ops looksN S Q (o :: rest) a w := by
  rw [text_cons, if_pos hw, if_neg (by simp [hs])]
  exact h _ (fun _ _ x y => ⟨x, y⟩)
end
/-- A world later than W but for the blocks S. -/
structure LaterB (S : Nat → Prop) (W : World) where
  w : World
  b : But S W w
instance {S : Nat → Prop} {W : World} : Nonempty (LaterB S W) := ⟨⟨W, But.refl _ _⟩⟩
section
variable {S : Nat → Prop} {W : World} (x : LaterB S W) (b o : Nat) (h : b < W.heap.size) (hn : ¬ S b)
include h hn
theorem LaterB.cell : x.w.cell? ⟨b, o, none⟩ = W.cell? ⟨b, o, none⟩ := x.b.cell h hn
theorem LaterB.frozen : x.w.frozen? ⟨b, o, none⟩ = W.frozen? ⟨b, o, none⟩ := by
  have := x.b.block b h hn
  simp [World.frozen?, this]
theorem LaterB.row (n : Nat) : row? x.w b o n = row? W b o n := row?_of_block (x.b.block b h hn) o n
end
attribute [go_sem] LaterB.cell LaterB.frozen LaterB.row
abbrev sinceB (S : Nat → Prop) (w : World) : World → Prop := fun w' => ∃ x : LaterB S w, w' = x.w
theorem wp_region_sinceB {P : Program} {id : Nat} {Q' : Exit → Act → World → Prop} {a : Act} {W w : World} {l : List Oper} (S : Nat → Prop) (hW : But S W w) (hm : P.follows .mixedOrders = true) (hB : textB looksN l.toArray = true)
    (h : wpText P l.toArray looksN (sinceB S W) (fun a' w' => Q' .normal a' w') l a w.drew) : (Code.region id l.toArray true).wp P Q' a w :=
  wp_region_text (sinceB S W) looksN hm hB ⟨⟨w.drew, hW.drew⟩, rfl⟩ h
theorem sinceB_of {S : Nat → Prop} {W w : World} (h : But S W w) : sinceB S W w := ⟨⟨w, h⟩, rfl⟩
theorem wp_region_sinceN {P : Program} {id : Nat} {Q' : Exit → Act → World → Prop} {a : Act} {W w : World} {l : List Oper} (hW : Below W.heap.size W w) (hm : P.follows .mixedOrders = true) (hB : textB looksN l.toArray = true)
    (h : ∀ w1, Below W.heap.size W w1 → wpText P l.toArray looksN (since W) (fun a' w' => Q' .normal a' w') l a w1) : (Code.region id l.toArray true).wp P Q' a w :=
  wp_region_text (since W) looksN hm hB ⟨⟨w.drew, hW.drew⟩, rfl⟩ (h _ hW.drew)
/-- One block. -/
def one (p : Nat) : Nat → Prop := fun k => k = p
theorem not_one {p k : Nat} (h : k ≠ p) : ¬ one p k := h
end Go.WW
/- A region that draws its order, walked in the order of the text, in which some operations read what others write: these are ordered. Turned from Text.lt. -/
namespace Go.WW.T3
open Go.RowKit Go.WW
section
variable {P : Program} {ops : Array Oper} {S : World → Prop} {kd : Oper → Nat} {Q : Act → World → Prop}
/-- What a look yields: in every world of the class (kind 0), or in this one (kind 1). -/
def LV (P : Program) (S : World → Prop) (kd : Oper → Nat) (w : World) (o : Oper) (ρ : Operand → Value) (v : Value) : Prop :=
  if kd o = 0 then ∀ w', S w' → (execOp ρ o).run P w' = .ok (.value v) w' else (execOp ρ o).run P w = .ok (.value v) w
theorem LV.here {P : Program} {S : World → Prop} {kd : Oper → Nat} {w : World} {o : Oper} {ρ : Operand → Value} {v : Value} (h : LV P S kd w o ρ v) (hS : S w) : (execOp ρ o).run P w = .ok (.value v) w := by
  unfold LV at h
  split at h
  · exact h w hS
  · exact h
theorem LV.any {P : Program} {S : World → Prop} {kd : Oper → Nat} {w w1 : World} {o : Oper} {ρ : Operand → Value} {v : Value} (h : LV P S kd w o ρ v) (h0 : kd o = 0) : LV P S kd w1 o ρ v := by
  unfold LV at *
  rw [if_pos h0] at *
  exact h
/-- The walk in the order of the text. -/
def wpText (P : Program) (ops : Array Oper) (kd : Oper → Nat) (S : World → Prop) (Q : Act → World → Prop) : List Oper → Act → World → Prop
  | [], a, w => Q a w
  | o :: rest, a, w =>
    if Region.wanted o (yielded ops a.tmps) then
      if kd o < 2 then ∃ v, LV P S kd w o a.eval v ∧ wpText P ops kd S Q rest (a.put o.dst v) w
      else o.wp P a w (fun a' w' => S w' ∧ wpText P ops kd S Q rest a' w') never
    else wpText P ops kd S Q rest (a.put o.dst undef) w

theorem text_cons (o : Oper) (rest : List Oper) (a : Act) (w : World) : wpText P ops kd S Q (o :: rest) a w =
    (if Region.wanted o (yielded ops a.tmps) then
      if kd o < 2 then ∃ v, LV P S kd w o a.eval v ∧ wpText P ops kd S Q rest (a.put o.dst v) w
      else o.wp P a w (fun a' w' => S w' ∧ wpText P ops kd S Q rest a' w') never
    else wpText P ops kd S Q rest (a.put o.dst undef) w) := rfl

theorem text_mono {l : List Oper} {Q' : Act → World → Prop} (h : ∀ a w, Q a w → Q' a w) : ∀ {a w}, wpText P ops kd S Q l a w → wpText P ops kd S Q' l a w := by
  induction l with
  | nil => exact fun hh => h _ _ hh
  | cons o l ih =>
    intro a w hh
    rw [text_cons] at *
    split
    · rename_i hw
      simp only [hw, if_true] at hh
      split
      · rename_i hs
        simp only [hs, if_true] at hh
        obtain ⟨v, h1, h2⟩ := hh
        exact ⟨v, h1, ih h2⟩
      · rename_i hs
        simp only [hs] at hh
        exact Oper.wp_mono (fun a' w' ⟨x, y⟩ => ⟨x, ih y⟩) hh
    · rename_i hw
      simp only [hw] at hh
      exact ih hh

theorem cons_mono {o : Oper} {M M' : List Oper} {a : Act} {w : World} (hS : S w) (h : ∀ a' w', S w' → wpText P ops kd S Q M a' w' → wpText P ops kd S Q M' a' w')
    (hh : wpText P ops kd S Q (o :: M) a w) : wpText P ops kd S Q (o :: M') a w := by
  rw [text_cons] at *
  split
  · rename_i hw
    simp only [hw, if_true] at hh
    split
    · rename_i hs
      simp only [hs, if_true] at hh
      obtain ⟨v, h1, h2⟩ := hh
      exact ⟨v, h1, h _ _ hS h2⟩
    · rename_i hs
      simp only [hs] at hh
      exact Oper.wp_mono (fun a' w' ⟨x, y⟩ => ⟨x, h _ _ x y⟩) hh
  · rename_i hw
    simp only [hw] at hh
    exact h _ _ hS hh

/-- Two operations that may change places. -/
def pairOk (kd : Oper → Nat) (x o : Oper) : Bool := decide (kd x = 0) || decide (kd o = 0) || (decide (kd x < 2) && decide (kd o < 2))
theorem text_swap {x o : Oper} {L : List Oper} {a : Act} {w : World} (hS : S w) (hx : ∀ cs b, x.op ≠ .select cs b) (ho : ∀ cs b, o.op ≠ .select cs b)
    (hap : x.apart ops o = true) (hst : pairOk kd x o = true) (h : wpText P ops kd S Q (x :: o :: L) a w) : wpText P ops kd S Q (o :: x :: L) a w := by
  obtain ⟨h1, h2, h3⟩ := Oper.apart_spec hap
  have h2' : ∀ d, o.dst = some d → x.dst ≠ some d := fun d hd hxd => h2 d hxd hd
  have wo : ∀ (b : Act) v, Region.wanted o (yielded ops (b.put x.dst v).tmps) = Region.wanted o (yielded ops b.tmps) := fun b v => wanted_put o b x.dst v h1
  have wx : ∀ (b : Act) v, Region.wanted x (yielded ops (b.put o.dst v).tmps) = Region.wanted x (yielded ops b.tmps) := fun b v => wanted_put x b o.dst v h3
  have eo : ∀ (w : World) (b : Act) v u, LV P S kd w o (b.put x.dst v).eval u = LV P S kd w o b.eval u := fun w b v u => by unfold LV; rw [execOp_put o ho b x.dst v h1]
  have ex : ∀ (w : World) (b : Act) v u, LV P S kd w x (b.put o.dst v).eval u = LV P S kd w x b.eval u := fun w b v u => by unfold LV; rw [execOp_put x hx b o.dst v h3]
  have hc : ∀ (b : Act) v u, (b.put x.dst v).put o.dst u = (b.put o.dst u).put x.dst v := fun b v u => Act.put_comm b v u h2
  have hk : (kd x = 0 ∨ kd o = 0) ∨ kd x < 2 ∧ kd o < 2 := by simpa [pairOk] using hst
  rw [text_cons] at h ⊢
  by_cases hwx : Region.wanted x (yielded ops a.tmps) = true
  · rw [if_pos hwx] at h
    by_cases hsx : kd x < 2
    · rw [if_pos hsx] at h
      obtain ⟨v, hv, h⟩ := h
      rw [text_cons, wo] at h
      by_cases hwo : Region.wanted o (yielded ops a.tmps) = true
      · rw [if_pos hwo] at h ⊢
        by_cases hso : kd o < 2
        · rw [if_pos hso] at h ⊢
          obtain ⟨u, hu, h⟩ := h
          rw [eo] at hu
          refine ⟨u, hu, ?_⟩
          rw [text_cons, wx, if_pos hwx, if_pos hsx]
          exact ⟨v, by rw [ex]; exact hv, by rw [← hc]; exact h⟩
        · rw [if_neg hso] at h ⊢
          have h0 : kd x = 0 := by omega
          have h' := wp_form ((wp_put ho h1 h2).1 h)
          refine Oper.wp_mono ?_ h'
          rintro a' w' ⟨⟨u, ds, rfl⟩, hS', h⟩
          refine ⟨hS', ?_⟩
          rw [text_cons, wx, show Region.wanted x (yielded ops ({ a with defers := ds } : Act).tmps) = true from hwx, if_pos rfl, if_pos hsx]
          exact ⟨v, by rw [ex]; exact hv.any h0, h⟩
      · rw [if_neg hwo] at h ⊢
        rw [text_cons, wx, if_pos hwx, if_pos hsx]
        exact ⟨v, by rw [ex]; exact hv, by rw [← hc]; exact h⟩
    · have h0 : kd o = 0 := by omega
      have hso : kd o < 2 := by omega
      rw [if_neg hsx] at h
      have h' := wp_form h
      by_cases hwo : Region.wanted o (yielded ops a.tmps) = true
      · rw [if_pos hwo, if_pos hso]
        have key : ∀ a' w', ((∃ u ds, a' = ({ a with defers := ds } : Act).put x.dst u) ∧ S w' ∧ wpText P ops kd S Q (o :: L) a' w') →
            ∃ v, LV P S kd w o a.eval v ∧ S w' ∧ wpText P ops kd S Q L (a'.put o.dst v) w' := by
          rintro a' w' ⟨⟨u, ds, rfl⟩, hS', hh⟩
          rw [text_cons, wo, show Region.wanted o (yielded ops ({ a with defers := ds } : Act).tmps) = true from hwo, if_pos rfl, if_pos hso] at hh
          obtain ⟨v, hv, hh⟩ := hh
          rw [eo] at hv
          exact ⟨v, hv.any h0, hS', hh⟩
        obtain ⟨a1, w1, h1'⟩ := wp_exists h'
        obtain ⟨v, hv, _⟩ := key _ _ h1'
        refine ⟨v, hv, ?_⟩
        rw [text_cons, wx, if_pos hwx, if_neg hsx, wp_put hx h3 h2']
        refine Oper.wp_mono ?_ h'
        intro a' w' hh
        obtain ⟨v', hv', hS', hh⟩ := key _ _ hh
        have e : v' = v := by
          have := (hv'.here hS).symm.trans (hv.here hS)
          simpa using this
        subst e
        exact ⟨hS', hh⟩
      · rw [if_neg hwo, text_cons, wx, if_pos hwx, if_neg hsx, wp_put hx h3 h2']
        refine Oper.wp_mono ?_ h'
        rintro a' w' ⟨⟨u, ds, rfl⟩, hS', hh⟩
        rw [text_cons, wo, show Region.wanted o (yielded ops ({ a with defers := ds } : Act).tmps) = false from by simpa using hwo, if_neg (by simp)] at hh
        exact ⟨hS', hh⟩
  · rw [if_neg hwx] at h
    rw [text_cons, wo] at h
    by_cases hwo : Region.wanted o (yielded ops a.tmps) = true
    · rw [if_pos hwo] at h ⊢
      by_cases hso : kd o < 2
      · rw [if_pos hso] at h ⊢
        obtain ⟨u, hu, h⟩ := h
        rw [eo] at hu
        refine ⟨u, hu, ?_⟩
        rw [text_cons, wx, if_neg hwx, ← hc]
        exact h
      · rw [if_neg hso] at h ⊢
        have h' := wp_form ((wp_put ho h1 h2).1 h)
        refine Oper.wp_mono ?_ h'
        rintro a' w' ⟨⟨u, ds, rfl⟩, hS', h⟩
        refine ⟨hS', ?_⟩
        rw [text_cons, wx, show Region.wanted x (yielded ops ({ a with defers := ds } : Act).tmps) = false from by simpa using hwx, if_neg (by simp)]
        exact h
    · rw [if_neg hwo] at h ⊢
      rw [text_cons, wx, if_neg hwx, ← hc]
      exact h

/-- .. and so to the front. -/
theorem text_front {o : Oper} {L2 : List Oper} (ho : ∀ cs b, o.op ≠ .select cs b) : ∀ (L1 : List Oper), (∀ x ∈ L1, (∀ cs b, x.op ≠ .select cs b) ∧ x.apart ops o = true ∧ pairOk kd x o = true) →
    ∀ (a : Act) (w : World), S w → wpText P ops kd S Q (L1 ++ o :: L2) a w → wpText P ops kd S Q (o :: (L1 ++ L2)) a w
  | [], _, _, _, _, h => h
  | x :: L1, hall, a, w, hS, h => by
    have hx := hall x (by simp)
    refine text_swap hS hx.1 ho hx.2.1 hx.2.2 ?_
    exact cons_mono hS (fun a' w' hS' hh => text_front ho L1 (fun y hy => hall y (by simp [hy])) a' w' hS' hh) h

abbrev lk (kd : Oper → Nat) : Oper → Bool := fun o => decide (kd o < 2)
/-- What is asked of the region: edges go back; two operations are ordered by an edge or touch none of each other's temporaries; two that act are ordered. -/
def textB (kd : Oper → Nat) (ops : Array Oper) : Bool :=
  let m := effPreds (lk kd) ops
  Region.noSelect ops && (List.range ops.size).all fun j => match ops[j]? with
    | none => true
    | some oj =>
      oj.after.toList.all (fun e => !Region.binds .any e || decide (e.on < j)) &&
      (m.getD j []).all (fun i => oj.after.toList.any fun e => Region.binds .any e && (e.on == i || (m.getD e.on []).contains i)) &&
      (List.range j).all fun i => match ops[i]? with
        | none => true
        | some oi => oj.after.toList.any (fun e => Region.binds .any e && e.on == i) || (oi.apart ops oj && (pairOk kd oi oj || (m.getD j []).contains i))

structure TextOk (kd : Oper → Nat) (ops : Array Oper) (m : Array (List Nat)) : Prop where
  sel : Region.noSelect ops = true
  back : ∀ j oj, ops[j]? = some oj → ∀ e ∈ oj.after, Region.binds .any e = true → e.on < j
  pred : ∀ j oj, ops[j]? = some oj → ∀ i ∈ m.getD j [], ∃ e ∈ oj.after, Region.binds .any e = true ∧ (e.on = i ∨ i ∈ m.getD e.on [])
  pair : ∀ j oj, ops[j]? = some oj → ∀ i, i < j → ∀ oi, ops[i]? = some oi → (∃ e ∈ oj.after, Region.binds .any e = true ∧ e.on = i) ∨ (oi.apart ops oj = true ∧ (pairOk kd oi oj = true ∨ i ∈ m.getD j []))

theorem textB_ok (h : textB kd ops = true) : TextOk kd ops (effPreds (lk kd) ops) := by
  unfold textB at h
  simp only [Bool.and_eq_true, List.all_eq_true, List.mem_range] at h
  obtain ⟨hs, h⟩ := h
  have lt : ∀ {j : Nat} {oj : Oper}, ops[j]? = some oj → j < ops.size := fun hj => (Array.getElem?_eq_some_iff.1 hj).1
  refine ⟨hs, fun j oj hj => ?_, fun j oj hj => ?_, fun j oj hj => ?_⟩
  all_goals
    have hh := h j (lt hj)
    simp only [hj, Bool.and_eq_true, List.all_eq_true, List.mem_range] at hh
    obtain ⟨⟨h1, h2⟩, h3⟩ := hh
  · intro e he hb
    have := h1 e (by simpa using he)
    simpa [hb] using this
  · intro i hi
    have := h2 i hi
    simp only [List.any_eq_true, Bool.and_eq_true, Bool.or_eq_true, beq_iff_eq, List.contains_iff_mem] at this
    obtain ⟨e, he, hb, hor⟩ := this
    exact ⟨e, by simpa using he, hb, hor⟩
  · intro i hi oi ho
    have := h3 i hi
    simp only [ho, Bool.or_eq_true, List.any_eq_true, Bool.and_eq_true, beq_iff_eq, List.contains_iff_mem] at this
    rcases this with ⟨e, he, hb, hor⟩ | ⟨ha, hor⟩
    · exact .inl ⟨e, by simpa using he, hb, hor⟩
    · exact .inr ⟨ha, hor⟩

theorem preds_listed {m : Array (List Nat)} (hok : TextOk kd ops m) {listed : Array Bool}
    (hdown : ∀ k o, ops[k]? = some o → listed.getD k false = true → ∀ e ∈ o.after, Region.binds .any e = true → listed.getD e.on false = true) :
    ∀ (j : Nat) (oj : Oper), ops[j]? = some oj → (∀ e ∈ oj.after, Region.binds .any e = true → listed.getD e.on false = true) → ∀ i ∈ m.getD j [], listed.getD i false = true := by
  intro j
  induction j using Nat.strongRecOn with
  | _ j ih =>
    intro oj hj hall i hi
    obtain ⟨e, he, hb, hor⟩ := hok.pred j oj hj i hi
    rcases hor with rfl | hor
    · exact hall e he hb
    · have hlt := hok.back j oj hj e he hb
      have hjs : j < ops.size := (Array.getElem?_eq_some_iff.1 hj).1
      have hoe : ops[e.on]? = some (ops[e.on]'(by omega)) := by simp
      exact ih e.on hlt _ hoe (hdown _ _ hoe (hall e he hb)) i hor

theorem text_any {m : Array (List Nat)} (hok : TextOk kd ops m) {Q' : Exit → Act → World → Prop} (hQ : ∀ a w, Q a w → Q' .normal a w) :
    ∀ (n : Nat) (L : List Nat) (listed : Array Bool) (a : Act) (w : World), L.length = n → L.Pairwise (· < ·) → listed.size = ops.size → (∀ j, j ∈ L ↔ j < ops.size ∧ listed.getD j true = false) →
      (∀ k o, ops[k]? = some o → listed.getD k false = true → ∀ e ∈ o.after, Region.binds .any e = true → listed.getD e.on false = true) →
      S w → wpText P ops kd S Q (L.filterMap (ops[·]?)) a w → wpAny P .any ops Q' n listed a w := by
  intro n
  induction n with
  | zero =>
    intro L listed a w hn _ hsz hL _ _ h
    have : L = [] := List.eq_nil_of_length_eq_zero hn
    subst this
    refine ⟨?_, hQ _ _ h⟩
    cases hr : Region.ready .any ops listed with
    | nil => rfl
    | cons i r =>
      have hi : i ∈ Region.ready .any ops listed := by rw [hr]; simp
      obtain ⟨h0, o, ho, _⟩ := mem_ready.1 hi
      have := (hL i).2 ⟨(Array.getElem?_eq_some_iff.1 ho).1, h0⟩
      cases this
  | succ n ih =>
    intro L listed a w hn hsort hsz hL hdown hS h
    refine ⟨fun hr => ?_, fun i hi => ?_⟩
    · exfalso
      cases L with
      | nil => simp at hn
      | cons j L =>
        obtain ⟨hj, hjl⟩ := (hL j).1 (by simp)
        have hoj : ops[j]? = some ops[j] := by simp [hj]
        have : j ∈ Region.ready .any ops listed := by
          refine mem_ready.2 ⟨hjl, _, hoj, fun e he hb => ?_⟩
          have hlt := hok.back j _ hoj e he hb
          have hnot : e.on ∉ j :: L := by
            intro hmem
            rcases List.mem_cons.1 hmem with h1 | h1
            · omega
            · have := (List.pairwise_cons.1 hsort).1 _ h1; omega
          have h2 : listed.getD e.on true ≠ false := fun hf => hnot ((hL e.on).2 ⟨by omega, hf⟩)
          have hes : e.on < listed.size := by omega
          simp [hes] at h2 ⊢; exact h2
        rw [hr] at this; cases this
    · obtain ⟨h0, o, ho, hall⟩ := mem_ready.1 hi
      have his : i < ops.size := (Array.getElem?_eq_some_iff.1 ho).1
      have hiL : i ∈ L := (hL i).2 ⟨his, h0⟩
      obtain ⟨L1, L2, rfl⟩ := List.append_of_mem hiL
      have hsort' := List.pairwise_append.1 hsort
      have hlt1 : ∀ x ∈ L1, x < i := fun x hx => hsort'.2.2 x hx i (by simp)
      have hgt2 : ∀ x ∈ L2, i < x := fun x hx => (List.pairwise_cons.1 hsort'.2.1).1 x hx
      rw [List.filterMap_append, List.filterMap_cons_some ho] at h
      have hfront := text_front (P := P) (ops := ops) (S := S) (kd := kd) (Q := Q) (Region.noSelect_spec hok.sel i o · · ho) (L1.filterMap (ops[·]?)) (fun x hx => by
        obtain ⟨k, hk, hox⟩ := List.mem_filterMap.1 hx
        have hkl := ((hL k).1 (by simp [hk])).2
        have hnl : ¬ listed.getD k false = true := fun hf => by rw [getD_true_of_false hf] at hkl; cases hkl
        refine ⟨(Region.noSelect_spec hok.sel k x · · hox), ?_⟩
        rcases hok.pair i o ho k (hlt1 k hk) x hox with ⟨e, he, hb, rfl⟩ | ⟨hap, hor⟩
        · exact absurd (hall e he hb) hnl
        · refine ⟨hap, ?_⟩
          rcases hor with h1 | h1
          · exact h1
          · exact absurd (preds_listed hok hdown i o ho hall k h1) hnl) a w hS h
      have hrest : ∀ a' w', S w' → wpText P ops kd S Q (L1.filterMap (ops[·]?) ++ L2.filterMap (ops[·]?)) a' w' → wpAny P .any ops Q' n (listed.setIfInBounds i true) a' w' := by
        intro a' w' hS' hh
        rw [← List.filterMap_append] at hh
        refine ih (L1 ++ L2) (listed.setIfInBounds i true) a' w' ?_ ?_ (by simpa using hsz) ?_ ?_ hS' hh
        · simp at hn ⊢; omega
        · exact List.pairwise_append.2 ⟨hsort'.1, (List.pairwise_cons.1 hsort'.2.1).2, fun x hx y hy => hsort'.2.2 x hx y (by simp [hy])⟩
        · intro j
          by_cases hji : j = i
          · subst hji
            constructor
            · intro hm
              exfalso
              rcases List.mem_append.1 hm with h1 | h1
              · have := hlt1 _ h1; omega
              · have := hgt2 _ h1; omega
            · rintro ⟨_, hf⟩
              have : j < listed.size := by omega
              simp [this] at hf
          · rw [getD_set_ne true (Ne.symm hji), ← hL j]
            simp [hji]
        · intro k ok hk hkl e he hb
          by_cases hki : k = i
          · subst hki
            rw [ho] at hk; cases hk
            exact getD_set_true (hall e he hb)
          · rw [getD_set_ne false (Ne.symm hki)] at hkl
            exact getD_set_true (hdown k ok hk hkl e he hb)
      unfold wpOp
      simp only [ho]
      rw [text_cons] at hfront
      split
      · rename_i hw
        rw [if_pos hw] at hfront
        refine .inl ?_
        by_cases hs : kd o < 2
        · rw [if_pos hs] at hfront
          obtain ⟨v, hv, hh⟩ := hfront
          unfold Oper.wp
          rw [hv.here hS]
          exact hrest _ _ hS hh
        · rw [if_neg hs] at hfront
          exact wp_mono_Q (Oper.wp_mono (fun a' w' hh => hrest a' w' hh.1 hh.2) hfront)
      · rename_i hw
        rw [if_neg hw] at hfront
        exact hrest _ _ hS hfront

/-- ONE WALK IN THE ORDER OF THE TEXT SERVES EVERY ORDER. -/
theorem wp_region_text {id : Nat} {Q' : Exit → Act → World → Prop} {a : Act} {w : World} {l : List Oper} (S : World → Prop) (kd : Oper → Nat) (hm : P.follows .mixedOrders = true) (hB : textB kd l.toArray = true)
    (hS : S w.drew) (h : wpText P l.toArray kd S (fun a' w' => Q' .normal a' w') l a w.drew) : (Code.region id l.toArray true).wp P Q' a w := by
  refine wp_region_any hm ?_
  have hfm : (List.range l.toArray.size).filterMap (l.toArray[·]?) = l := by
    apply List.ext_getElem?
    intro i
    have : ∀ n, (List.range n).filterMap (fun i => l.toArray[i]?) = l.take n := by
      intro n
      induction n with
      | zero => simp
      | succ n ih =>
        rw [List.range_succ, List.filterMap_append, ih]
        by_cases hn : n < l.length
        · rw [List.take_succ_eq_append_getElem hn]; simp [hn]
        · simp [hn, List.take_of_length_le (show l.length ≤ n by omega), List.take_of_length_le (show l.length ≤ n + 1 by omega)]
    rw [this]; simp
  have := text_any (P := P) (S := S) (Q := fun a' w' => Q' .normal a' w') (textB_ok hB) (Q' := Q') (fun _ _ h => h) l.toArray.size (List.range l.toArray.size) (Array.replicate l.toArray.size false) a w.drew
    (by simp) List.pairwise_lt_range (by simp) (by intro j; simp; intro h; simp [h]) (by intro k o hk hkl; exfalso; rw [Array.getD_eq_getD_getElem?, Array.getElem?_replicate] at hkl; split at hkl <;> simp at hkl) hS (by rw [hfm]; exact h)
  exact this

/-! ### The walk's steps -/
theorem text_nil {a : Act} {w : World} (h : Q a w) : wpText P ops kd S Q [] a w := h
theorem text_skip {o : Oper} {rest : List Oper} {a : Act} {w : World} (hw : Region.wanted o (yielded ops a.tmps) = false) (h : wpText P ops kd S Q rest (a.put o.dst undef) w) : wpText P ops kd S Q (o :: rest) a w := by
  rw [text_cons, if_neg (by simp [hw])]; exact h
/-- The kinds: loads read what the acts write. -/
def kinds (o : Oper) : Nat :=
  match o.op with
  | .load .. => 1
  | _ => if looks o then 0 else 2
theorem kinds_looks {o : Oper} (h : kinds o < 2) : looks o = true := by
  unfold kinds at h
  split at h
  · rename_i h'; unfold looks; rw [h']
  · split at h
    · assumption
    · omega
theorem text_look {o : Oper} {rest : List Oper} {a : Act} {w : World} (hw : Region.wanted o (yielded ops a.tmps) = true) (hs : kinds o = 0)
    (h : ∀ K : Act → Prop, (∀ a', wpText P ops kinds S Q rest a' w → K a') → o.quiet P a S K) : wpText P ops kinds S Q (o :: rest) a w := by
  rw [text_cons, if_pos hw, if_pos (by omega)]
  obtain ⟨v, hv, hh⟩ := h _ (fun _ x => x)
  refine ⟨v, ?_, hh⟩
  unfold LV
  rw [if_pos hs]
  intro w' hw'
  have := hv w' hw'
  unfold Oper.quietAt at this
  rcases looks_value (P := P) (kinds_looks (o := o) (by omega)) a.eval w' with ⟨u, w'', e⟩ | ⟨x, w'', e⟩
  · rw [e] at this ⊢
    obtain ⟨rfl, rfl⟩ := this
    rfl
  · rw [e] at this
    exact this.elim
theorem text_read {o : Oper} {rest : List Oper} {a : Act} {w : World} (hw : Region.wanted o (yielded ops a.tmps) = true) (hs : kinds o = 1)
    (h : ∀ K : Act → World → Prop, (∀ a', wpText P ops kinds S Q rest a' w → K a' w) → o.wp P a w K never) : wpText P ops kinds S Q (o :: rest) a w := by
  rw [text_cons, if_pos hw, if_pos (by omega)]
  have h' := h (fun a' w' => w' = w ∧ wpText P ops kinds S Q rest a' w) (fun _ x => ⟨rfl, x⟩)
  unfold Oper.wp at h'
  rcases looks_value (P := P) (kinds_looks (o := o) (by omega)) a.eval w with ⟨u, w'', e⟩ | ⟨x, w'', e⟩
  · rw [e] at h'
    obtain ⟨rfl, hh⟩ := h'
    refine ⟨u, ?_, hh⟩
    unfold LV
    rw [if_neg (by omega)]
    exact e
  · rw [e] at h'
    cases x <;> simp only [Oper.upon, never] at h'
theorem text_act {o : Oper} {rest : List Oper} {a : Act} {w : World} (hw : Region.wanted o (yielded ops a.tmps) = true) (hs : kinds o = 2)
    (h : ∀ K : Act → World → Prop, (∀ a' w', S w' → wpText P ops kinds S Q rest a' w' → K a' w') → o.wp P a w K never) : wpText P ops kinds S Q (o :: rest) a w := by
  rw [text_cons, if_pos hw, if_neg (by omega)]
  exact h _ (fun _ _ x y => ⟨x, y⟩)
end
theorem wp_region_sinceR {P : Program} {id : Nat} {Q' : Exit → Act → World → Prop} {a : Act} {W w : World} {l : List Oper} (S : Nat → Prop) (hW : But S W w) (hm : P.follows .mixedOrders = true) (hB : textB kinds l.toArray = true)
    (h : wpText P l.toArray kinds (sinceB S W) (fun a' w' => Q' .normal a' w') l a w.drew) : (Code.region id l.toArray true).wp P Q' a w :=
  wp_region_text (sinceB S W) kinds hm hB ⟨⟨w.drew, hW.drew⟩, rfl⟩ h
end Go.WW.T3
