/- Part I of the proof about watchword's lockout: texts P1 Own E2 E3 Put. -/
import Derived.Test.YtnpddjmjdpgohaaGreatDoorGH
import Derived.Test.YtnpddjmjdpgohaaGreatDoorGA
import Derived.Maps.AppendAt
import Derived.Deep.AppendLies

namespace Go.WW

def specialB (c : UInt8) : Bool := (c.toNat : Int) == 47 || (c.toNat : Int) == 64 || (c.toNat : Int) == 92
def escOne (c : UInt8) : List UInt8 := if specialB c then [92, c] else [c]
def esc (l : List UInt8) : List UInt8 := l.flatMap escOne
def partsTail (l : List ByteArray) : List UInt8 := l.flatMap fun q => 47 :: esc q.data.toList
def partsText : List ByteArray → List UInt8
  | [] => []
  | p :: ps => esc p.data.toList ++ partsTail ps
def textL (p : Prin) : List UInt8 := partsText p.parts ++ 64 :: p.realm.data.toList
def textOf (p : Prin) : ByteArray := ⟨(textL p).toArray⟩

theorem esc_nil : esc [] = [] := rfl
theorem esc_cons (c : UInt8) (l : List UInt8) : esc (c :: l) = escOne c ++ esc l := rfl
theorem esc_snoc (l : List UInt8) (c : UInt8) : esc (l ++ [c]) = esc l ++ escOne c := by simp [esc]
theorem partsText_snoc (l : List ByteArray) (q : ByteArray) : partsText (l ++ [q]) = (if l.length = 0 then [] else partsText l ++ [47]) ++ esc q.data.toList := by
  cases l with
  | nil => simp [partsText, partsTail]
  | cons p ps => simp [partsText, partsTail]

def sepStart : List UInt8 → Prop
  | [] => False
  | c :: _ => c = 47 ∨ c = 64

theorem sp47 : specialB 47 = true := by decide
theorem sp64 : specialB 64 = true := by decide
theorem sp92 : specialB 92 = true := by decide

theorem esc_inj : ∀ (p q x y : List UInt8), sepStart x → sepStart y → esc p ++ x = esc q ++ y → p = q ∧ x = y
  | [], [], x, y, _, _, h => ⟨rfl, by simpa [esc] using h⟩
  | [], d :: q, x, y, hx, _, h => by
    exfalso
    rw [esc_nil, List.nil_append, esc_cons] at h
    cases x with
    | nil => exact hx
    | cons a x =>
      unfold escOne at h
      split at h
      · simp only [List.cons_append, List.cons.injEq] at h
        rcases hx with e | e <;> rw [e] at h <;> simp at h
      · rename_i hs
        simp only [List.cons_append, List.cons.injEq] at h
        rcases hx with e | e <;> rw [← h.1, e] at hs
        · exact hs sp47
        · exact hs sp64
  | c :: p, [], x, y, hx, hy, h => by
    exfalso
    rw [esc_nil, List.nil_append, esc_cons] at h
    cases y with
    | nil => exact hy
    | cons a y =>
      unfold escOne at h
      split at h
      · simp only [List.cons_append, List.cons.injEq] at h
        rcases hy with e | e <;> rw [e] at h <;> simp at h
      · rename_i hs
        simp only [List.cons_append, List.cons.injEq] at h
        rcases hy with e | e <;> rw [h.1, e] at hs
        · exact hs sp47
        · exact hs sp64
  | c :: p, d :: q, x, y, hx, hy, h => by
    rw [esc_cons, esc_cons] at h
    unfold escOne at h
    split at h <;> split at h
    · simp only [List.cons_append, List.cons.injEq, List.nil_append, true_and] at h
      obtain ⟨rfl, h⟩ := h
      obtain ⟨rfl, rfl⟩ := esc_inj p q x y hx hy h
      exact ⟨rfl, rfl⟩
    · rename_i h1 h2
      simp only [List.cons_append, List.cons.injEq] at h
      rw [← h.1] at h2
      exact absurd sp92 h2
    · rename_i h1 h2
      simp only [List.cons_append, List.cons.injEq] at h
      rw [h.1] at h1
      exact absurd sp92 h1
    · simp only [List.cons_append, List.cons.injEq, List.nil_append] at h
      obtain ⟨rfl, h⟩ := h
      obtain ⟨rfl, rfl⟩ := esc_inj p q x y hx hy h
      exact ⟨rfl, rfl⟩

theorem tail_sep (ps : List ByteArray) (r : List UInt8) : sepStart (partsTail ps ++ 64 :: r) := by
  cases ps <;> simp [partsTail, sepStart]

theorem ba_ext {a b : ByteArray} (h : a.data.toList = b.data.toList) : a = b := by
  cases a; cases b; congr; exact Array.ext' h

theorem tail_inj : ∀ (ps qs : List ByteArray) (r s : List UInt8), partsTail ps ++ 64 :: r = partsTail qs ++ 64 :: s → ps = qs ∧ r = s
  | [], [], r, s, h => ⟨rfl, by simpa [partsTail] using h⟩
  | [], q :: qs, r, s, h => by exfalso; simp [partsTail] at h
  | p :: ps, [], r, s, h => by exfalso; simp [partsTail] at h
  | p :: ps, q :: qs, r, s, h => by
    have e : ∀ (p : ByteArray) ps r, partsTail (p :: ps) ++ 64 :: r = 47 :: (esc p.data.toList ++ (partsTail ps ++ 64 :: r)) := fun p ps r => by simp [partsTail]
    rw [e, e] at h
    simp only [List.cons.injEq, true_and] at h
    obtain ⟨h1, h2⟩ := esc_inj _ _ _ _ (tail_sep ps r) (tail_sep qs s) h
    obtain ⟨rfl, rfl⟩ := tail_inj ps qs r s h2
    exact ⟨by rw [ba_ext h1], rfl⟩

theorem textL_inj {p q : Prin} (hp : p.parts ≠ []) (hq : q.parts ≠ []) (h : textL p = textL q) : p.parts = q.parts ∧ p.realm = q.realm := by
  obtain ⟨pp, pr⟩ := p
  obtain ⟨qp, qr⟩ := q
  cases pp with
  | nil => exact absurd rfl hp
  | cons a ps =>
    cases qp with
    | nil => exact absurd rfl hq
    | cons b qs =>
      simp only [textL, partsText, List.append_assoc] at h
      obtain ⟨h1, h2⟩ := esc_inj _ _ _ _ (tail_sep ps _) (tail_sep qs _) h
      obtain ⟨rfl, h3⟩ := tail_inj _ _ _ _ h2
      exact ⟨by rw [ba_ext h1], ba_ext h3⟩

theorem textOf_eq {p q : Prin} (hp : p.parts ≠ []) (hq : q.parts ≠ []) : textOf p = textOf q ↔ samePrin p q = true := by
  simp only [samePrin, Bool.and_eq_true, decide_eq_true_eq]
  constructor
  · intro h
    have : textL p = textL q := by
      have := congrArg (fun b : ByteArray => b.data.toList) h
      simpa [textOf] using this
    exact (textL_inj hp hq this).symm
  · rintro ⟨h1, h2⟩
    unfold textOf textL; rw [h1, h2]

theorem prinOk_ne {p : Prin} (h : prinOk p = true) : p.parts ≠ [] := by
  rintro e
  simp [prinOk, e] at h

/-! ### Lists without repetition -/

def hasKey (acc : List ByteArray) (s : ByteArray) : Bool := acc.any fun x => decide (x = s)
theorem hasKey_iff (acc : List ByteArray) (s : ByteArray) : hasKey acc s = true ↔ s ∈ acc := by simp [hasKey]
def addKey (acc : List ByteArray) (s : ByteArray) : List ByteArray := if hasKey acc s then acc else acc ++ [s]
def keysOf (l : List ByteArray) : List ByteArray := l.foldl addKey []
theorem keysOf_snoc (l : List ByteArray) (s : ByteArray) : keysOf (l ++ [s]) = addKey (keysOf l) s := by simp [keysOf]
theorem addKey_len (acc : List ByteArray) (s : ByteArray) : (addKey acc s).length ≤ acc.length + 1 := by unfold addKey; split <;> simp
theorem fold_len : ∀ (l acc : List ByteArray), (l.foldl addKey acc).length ≤ acc.length + l.length
  | [], acc => by simp
  | s :: l, acc => by
    rw [List.foldl_cons, List.length_cons]
    have := fold_len l (addKey acc s)
    have := addKey_len acc s
    omega
theorem fold_nodup : ∀ (l acc : List ByteArray), acc.Nodup → ((l.foldl addKey acc).length = acc.length + l.length ↔ (acc ++ l).Nodup)
  | [], acc, h => by simp [h]
  | s :: l, acc, h => by
    rw [List.foldl_cons, List.length_cons]
    by_cases hs : s ∈ acc
    · have e : addKey acc s = acc := by rw [addKey, (hasKey_iff acc s).2 hs]; rfl
      rw [e]
      have := fold_len l acc
      constructor
      · intro h'; omega
      · intro h'
        exfalso
        rw [List.nodup_append] at h'
        exact h'.2.2 s hs s (by simp) rfl
    · have e : addKey acc s = acc ++ [s] := by rw [addKey, if_neg (fun h' => hs ((hasKey_iff acc s).1 h'))]
      rw [e]
      have hn : (acc ++ [s]).Nodup := by
        rw [List.nodup_append]
        refine ⟨h, by simp, ?_⟩
        intro a ha b hb
        simp at hb; subst hb
        rintro rfl; exact hs ha
      have ih := fold_nodup l (acc ++ [s]) hn
      rw [List.length_append, List.length_singleton, List.append_assoc, List.singleton_append] at ih
      rw [← ih]
      omega
theorem keysOf_len (l : List ByteArray) : (keysOf l).length ≤ l.length := by have := fold_len l []; simpa [keysOf] using this
def distinctP (l : List Prin) : Bool := decide (((keysOf (l.map textOf)).length : Int) = (l.length : Int))
theorem distinctP_iff (l : List Prin) : distinctP l = true ↔ (l.map textOf).Nodup := by
  have := fold_nodup (l.map textOf) [] List.nodup_nil
  simp only [List.length_nil, List.length_map, Nat.zero_add, List.nil_append] at this
  rw [← this, distinctP, decide_eq_true_eq, keysOf]
  omega

theorem samePrin_eq {p q : Prin} : samePrin p q = true ↔ p = q := by
  obtain ⟨a, b⟩ := p; obtain ⟨c, d⟩ := q
  simp only [samePrin, Bool.and_eq_true, decide_eq_true_eq, Prin.mk.injEq]
  exact And.comm

theorem nodup_texts {l : List Prin} (h : l.all prinOk = true) : (l.map textOf).Nodup ↔ l.Nodup := by
  induction l with
  | nil => simp
  | cons p l ih =>
    simp only [List.all_cons, Bool.and_eq_true] at h
    rw [List.map_cons, List.nodup_cons, List.nodup_cons, ih h.2]
    have : textOf p ∈ l.map textOf ↔ p ∈ l := by
      rw [List.mem_map]
      constructor
      · rintro ⟨q, hq, e⟩
        have hq' : prinOk q = true := List.all_eq_true.1 h.2 q hq
        rw [← samePrin_eq.1 ((textOf_eq (prinOk_ne hq') (prinOk_ne h.1)).1 e)]; exact hq
      · intro hp; exact ⟨p, hp, rfl⟩
    rw [this]

theorem diffAll_iff (l : List Prin) : diffAll l = true ↔ l.all prinOk = true ∧ l.Nodup := by
  simp only [diffAll, List.all_eq_true, List.mem_range]
  constructor
  · intro h
    refine ⟨fun p hp => ?_, ?_⟩
    · obtain ⟨i, hi, rfl⟩ := List.mem_iff_getElem.1 hp
      have := h i hi
      simp only [diffAt, List.getElem?_eq_getElem hi, Bool.and_eq_true] at this
      exact this.1
    · rw [List.nodup_iff_pairwise_ne, List.pairwise_iff_getElem]
      intro i j hi hj hij e
      have := h j hj
      simp only [diffAt, List.getElem?_eq_getElem hj, Bool.and_eq_true, List.all_eq_true] at this
      have h2 := this.2 l[i] (by rw [List.mem_iff_getElem]; exact ⟨i, by simp; omega, by simp⟩)
      rw [samePrin_eq.2 e] at h2
      simp at h2
  · rintro ⟨h1, h2⟩ i hi
    simp only [diffAt, List.getElem?_eq_getElem hi, Bool.and_eq_true, List.all_eq_true]
    refine ⟨h1 _ (List.getElem_mem hi), fun q hq => ?_⟩
    obtain ⟨k, hk, rfl⟩ := List.mem_iff_getElem.1 hq
    rw [List.nodup_iff_pairwise_ne, List.pairwise_iff_getElem] at h2
    simp only [List.length_take] at hk
    have hne := h2 k i (by omega) hi (by omega)
    rw [List.getElem_take]
    cases hs : samePrin l[k] l[i] with
    | false => rfl
    | true => exact absurd (samePrin_eq.1 hs) hne

theorem principals_eq (l : List Prin) : (decide ((l.length : Int) ≤ 16) && l.all prinOk && distinctP l) = different l := by
  rw [Bool.eq_iff_iff]
  simp only [different, Bool.and_eq_true]
  rw [diffAll_iff]
  constructor
  · rintro ⟨⟨h1, h2⟩, h3⟩
    exact ⟨⟨h2, (nodup_texts h2).1 ((distinctP_iff l).1 h3)⟩, h1⟩
  · rintro ⟨⟨h2, h3⟩, h1⟩
    exact ⟨⟨h1, h2⟩, (distinctP_iff l).2 ((nodup_texts h2).2 h3)⟩

def aliasFits (n a : Prin) : Bool := prinOk a && decide (a.realm = n.realm)
def namesOk (d : Entry) : Bool := prinOk d.name && (decide ((d.aliases.length : Int) ≤ 16) && d.aliases.all (aliasFits d.name)) && distinctP (d.name :: d.aliases)
theorem names_eq (d : Entry) : namesOk d = (prinOk d.name && different d.aliases && d.aliases.all (aliasOk d.name)) := by
  rw [Bool.eq_iff_iff]
  simp only [namesOk, different, Bool.and_eq_true]
  rw [diffAll_iff, distinctP_iff]
  have hfit : d.aliases.all (aliasFits d.name) = true ↔ d.aliases.all prinOk = true ∧ ∀ a ∈ d.aliases, a.realm = d.name.realm := by
    simp only [List.all_eq_true, aliasFits, Bool.and_eq_true, decide_eq_true_eq]
    exact ⟨fun h => ⟨fun a ha => (h a ha).1, fun a ha => (h a ha).2⟩, fun h a ha => ⟨h.1 a ha, h.2 a ha⟩⟩
  have hal : d.aliases.all (aliasOk d.name) = true ↔ (∀ a ∈ d.aliases, a.realm = d.name.realm) ∧ d.name ∉ d.aliases := by
    simp only [List.all_eq_true, aliasOk, Bool.and_eq_true, decide_eq_true_eq, Bool.not_eq_true']
    constructor
    · intro h
      refine ⟨fun a ha => (h a ha).1, fun hm => ?_⟩
      have := (h _ hm).2
      rw [samePrin_eq.2 rfl] at this; cases this
    · rintro ⟨h1, h2⟩ a ha
      refine ⟨h1 a ha, ?_⟩
      cases hs : samePrin a d.name with
      | false => rfl
      | true => rw [samePrin_eq.1 hs] at ha; exact absurd ha h2
  rw [hfit, hal]
  constructor
  · rintro ⟨⟨h1, h2, h3, h4⟩, h5⟩
    have h6 := (nodup_texts (l := d.name :: d.aliases) (by simp only [List.all_cons, h1, h3, Bool.and_true])).1 h5
    rw [List.nodup_cons] at h6
    exact ⟨⟨h1, ⟨h3, h6.2⟩, h2⟩, h4, h6.1⟩
  · rintro ⟨⟨h1, ⟨h3, h7⟩, h2⟩, h4, h6⟩
    exact ⟨⟨h1, h2, h3, h4⟩, (nodup_texts (l := d.name :: d.aliases) (by simp only [List.all_cons, h1, h3, Bool.and_true])).2 (List.nodup_cons.2 ⟨h6, h7⟩)⟩
end Go.WW

namespace Go.WW
open Go.RowKit

/-! ### Rows of k cells, one behind the other -/

def flat (rows : List (Array Value)) : List Value := rows.flatMap (·.toList)
theorem flat_cons (r : Array Value) (rows : List (Array Value)) : flat (r :: rows) = r.toList ++ flat rows := rfl
theorem flat_append (a b : List (Array Value)) : flat (a ++ b) = flat a ++ flat b := by simp [flat]
theorem flat_length {k : Nat} : ∀ {rows : List (Array Value)}, (∀ r ∈ rows, r.size = k) → (flat rows).length = rows.length * k
  | [], _ => by simp [flat]
  | r :: rows, h => by
    rw [flat_cons, List.length_append, flat_length (fun x hx => h x (by simp [hx])), List.length_cons, Nat.succ_mul]
    have := h r (by simp)
    simp [this]; omega
theorem flat_get {k : Nat} : ∀ {rows : List (Array Value)} (_ : ∀ r ∈ rows, r.size = k) (i j : Nat) (hi : i < rows.length) (_ : j < k), (flat rows)[i * k + j]? = rows[i][j]?
  | [], _, i, j, hi, _ => by simp at hi
  | r :: rows, h, 0, j, _, hj => by
    have := h r (by simp)
    rw [flat_cons, Nat.zero_mul, Nat.zero_add, List.getElem?_append_left (by simp; omega)]
    simp
  | r :: rows, h, i + 1, j, hi, hj => by
    have hr := h r (by simp)
    rw [flat_cons, List.getElem?_append_right (by simp [Nat.succ_mul]; omega)]
    have e : (i + 1) * k + j - r.toList.length = i * k + j := by simp [Nat.succ_mul]; omega
    rw [e, flat_get (fun x hx => h x (by simp [hx])) i j (by simpa using hi) hj]
    simp

structure Own (w : World) (base : Nat) (e : TypeId) (k : Nat) (s : Sl) (rows : List (Array Value)) : Prop where
  own : w.ownsRow base e k (.slice s.a rows.length s.cap) rows.length (flat rows)
  size : ∀ r ∈ rows, r.size = k

def Sl.blk (s : Sl) : Option Nat := s.a.map (·.block)
theorem ownBlock_slice (s : Sl) (n : Nat) : Value.ownBlock (.slice s.a n s.cap) = s.blk := by
  unfold Sl.blk Value.ownBlock; cases s.a <;> rfl

theorem Own.nil (w : World) (base : Nat) (e : TypeId) (k : Nat) : Own w base e k ⟨none, 0⟩ [] := ⟨World.ownsRow_nil w base e k, by simp⟩
theorem Own.base {w : World} {base : Nat} {e : TypeId} {k : Nat} {s : Sl} {rows : List (Array Value)} (h : Own w base e k s rows) {g : Nat} (hg : s.blk = some g) : base ≤ g ∧ g < w.heap.size :=
  h.own.lt g (by rw [ownBlock_slice]; exact hg)
theorem Own.kept {w w' : World} {base : Nat} {e : TypeId} {k : Nat} {s : Sl} {rows : List (Array Value)} (h : Own w base e k s rows) (hb : ∀ g, s.blk = some g → w'.heap[g]? = w.heap[g]?) : Own w' base e k s rows := by
  refine ⟨⟨h.own.1, ?_⟩, h.size⟩
  rcases h.own.2 with hn | ⟨g, cap, cur, hv, h1, hg, rest⟩
  · exact .inl hn
  · refine .inr ⟨g, cap, cur, hv, h1, ?_, rest⟩
    have ha : s.a = some ⟨g, 0, none⟩ := by injection hv
    rw [hb g (by simp [Sl.blk, ha])]; exact hg
theorem Own.row {w : World} {base : Nat} {e : TypeId} {k : Nat} {s : Sl} {rows : List (Array Value)} (h : Own w base e k s rows) (i : Nat) (hi : i < rows.length) :
    ∃ g, s.a = some ⟨g, 0, none⟩ ∧ s.blk = some g ∧ row? w g (0 + i * k) k = some rows[i] := by
  rcases h.own.2 with ⟨_, hn⟩ | ⟨g, cap, cur, hv, h1, hg, hle, _, hsz, htake⟩
  · omega
  · have ha : s.a = some ⟨g, 0, none⟩ := by injection hv
    refine ⟨g, ha, by simp [Sl.blk, ha], ?_⟩
    unfold row?
    rw [hg, Nat.zero_add]
    have h2 : i * k + k ≤ rows.length * k := by rw [← Nat.succ_mul]; exact Nat.mul_le_mul_right _ hi
    have h3 : rows.length * k ≤ cur.size := by rw [hsz]; exact Nat.mul_le_mul_right _ hle
    show (if i * k + k ≤ cur.size then _ else _) = _
    rw [if_pos (by omega)]
    congr 1
    have hrs := h.size rows[i] (List.getElem_mem hi)
    apply Array.ext_getElem?
    intro j
    by_cases hj : j < k
    · rw [Array.getElem?_extract]
      have e1 : j < min (i * k + k) cur.size - i * k := by omega
      rw [if_pos e1, ← flat_get h.size i j hi hj, ← htake, List.getElem?_take, if_pos (by omega)]
      simp
    · rw [Array.getElem?_eq_none (by simp; omega), Array.getElem?_eq_none (by omega)]

/-! ### The source of an append -/

structure SrcRows (w : World) (k : Nat) (A : Option Addr) (rows : List (Array Value)) : Prop where
  size : ∀ r ∈ rows, r.size = k
  one : ∀ r ∈ rows, allOne r = true
  at_ : ∀ i (hi : i < rows.length), ∃ b o, A = some ⟨b, o, none⟩ ∧ row? w b (o + i * k) k = some rows[i]

theorem SrcRows.cells {w : World} {k : Nat} {A : Option Addr} {rows : List (Array Value)} (h : SrcRows w k A rows) (hk : 0 < k) (hn : 0 < rows.length) :
    ∃ b o, A = some ⟨b, o, none⟩ ∧ ∀ j u, (flat rows)[j]? = some u → w.cell? ((⟨b, o, none⟩ : Addr).add j) = some u := by
  obtain ⟨b, o, ha, _⟩ := h.at_ 0 hn
  refine ⟨b, o, ha, fun j u hu => ?_⟩
  have hj : j < rows.length * k := by have := (List.getElem?_eq_some_iff.1 hu).1; rwa [flat_length h.size] at this
  have hi : j / k < rows.length := by rw [Nat.div_lt_iff_lt_mul hk]; exact hj
  have hr : j % k < k := Nat.mod_lt _ hk
  have e : j / k * k + j % k = j := Nat.div_add_mod' j k
  obtain ⟨b', o', ha', hrow⟩ := h.at_ (j / k) hi
  rw [ha] at ha'; cases ha'
  have hg := flat_get h.size (j / k) (j % k) hi hr
  rw [e, hu] at hg
  have hc := row?_cell hrow (j % k) hr
  rw [Nat.add_assoc, e] at hc
  have hadd : (⟨b, o, none⟩ : Addr).add j = ⟨b, o + j, none⟩ := by unfold Addr.add; split <;> simp_all
  rw [hadd, hc, ← hg]

theorem SrcRows.vals {w : World} {k : Nat} {A : Option Addr} {rows : List (Array Value)} (h : SrcRows w k A rows) : ∀ u ∈ flat rows, u.oneCell' = true := by
  intro u hu
  obtain ⟨r, hr, hur⟩ := List.mem_flatMap.1 hu
  have := h.one r hr
  unfold allOne at this
  rw [Array.all_eq_true'] at this
  exact this u (by simpa using hur)

theorem SrcRows.new (w : World) (cs : Array Value) (t : TypeId) (k : Nat) (hs : cs.size = k) (h1 : allOne cs = true) : SrcRows (w.alloc (.cells cs t)) k (some ⟨w.heap.size, 0, none⟩) [cs] :=
  ⟨by simpa using hs, by simpa using h1, fun i hi => ⟨_, _, rfl, by
    obtain rfl : i = 0 := by simp at hi; exact hi
    rw [row?_alloc_at rfl, Nat.zero_add, Nat.zero_mul, subRow_whole hs]; rfl⟩⟩

structure ElemOk (P : Program) (t e : TypeId) (k bytes : Nat) : Prop where
  und : P.underlying t = some (.slice e)
  info : ∃ i z, P.info? e = some i ∧ i.zero = some z ∧ i.size = k ∧ i.bytes = bytes ∧ z.cells.size = k
  pos : 0 < k

def elemB (x : Option (Option Nat × Nat × Nat)) (k bytes : Nat) : Bool := match x with | some (some a, b, c) => a == k && b == k && c == bytes && decide (0 < k) | _ => false
theorem ElemOk.of {P : Program} {t e : TypeId} {k bytes : Nat} (hu : P.underlying t = some (.slice e)) (h : elemB ((P.info? e).map fun i => (i.zero.map (·.cells.size), i.size, i.bytes)) k bytes = true) : ElemOk P t e k bytes := by
  unfold elemB at h
  cases hi : P.info? e with
  | none => rw [hi] at h; cases h
  | some i =>
    rw [hi] at h
    simp only [Option.map_some] at h
    cases hz : i.zero with
    | none => rw [hz] at h; cases h
    | some z =>
      rw [hz] at h
      simp only [Option.map_some, Bool.and_eq_true, beq_iff_eq, decide_eq_true_eq] at h
      exact ⟨hu, ⟨i, z, hi, hz, h.1.1.2, h.1.2, h.1.1.1⟩, h.2⟩

theorem run_append_nil {P : Program} {t ty e : TypeId} {k bytes : Nat} (he : ElemOk P t e k bytes) (w : World) {base : Nat} {s : Sl} {rows : List (Array Value)} (h : Own w base e k s rows) (c : Nat) :
    (Builtin.append_ #[t, t] ty #[.slice s.a rows.length s.cap, .slice none 0 c]).run P w = .ok (.slice s.a rows.length s.cap) w := by
  obtain ⟨i, z, hi, hz, h1, h2, h3⟩ := he.info
  rcases h.own.2 with ⟨hv, hn⟩ | ⟨g, cap, cur, hv, _, _, hnc, _⟩
  · rw [hv]; simp [Builtin.append_, run_underlying he.und, sizeOf, typeInfo, hi, Builtin.lenOf, Builtin.firstCells]
  · rw [hv]; simp [Builtin.append_, run_underlying he.und, sizeOf, typeInfo, hi, Builtin.lenOf, Builtin.firstCells, hnc, storeCells]

theorem run_append_rows {P : Program} {t ty e : TypeId} {k bytes : Nat} (he : ElemOk P t e k bytes) (w : World) {base : Nat} {s : Sl} {rows : List (Array Value)} (h : Own w base e k s rows) {A : Option Addr} {news : List (Array Value)} (c : Nat)
    (hs : SrcRows w k A news) (hlen : (rows.length + news.length) * (bytes + 1) ≤ 140737488355328) (hbase : base ≤ w.heap.size) :
    ∃ s' w', (Builtin.append_ #[t, t] ty #[.slice s.a rows.length s.cap, .slice A news.length c]).run P w = .ok (.slice s'.a (rows.length + news.length) s'.cap) w' ∧ Own w' base e k s' (rows ++ news) ∧ w.grownBy w' s.blk ∧ (s'.blk = s.blk ∨ s'.blk = some w.heap.size) := by
  have hl1 : rows.length + news.length ≤ maxLen := by
    have : rows.length + news.length ≤ (rows.length + news.length) * (bytes + 1) := Nat.le_mul_of_pos_right _ (by omega)
    unfold maxLen; omega
  have hl2 : (rows.length + news.length) * bytes ≤ 140737488355328 := Nat.le_trans (Nat.mul_le_mul_left _ (by omega)) hlen
  have main : ∀ b o, A = some ⟨b, o, none⟩ → (∀ j u, (flat news)[j]? = some u → w.cell? ((⟨b, o, none⟩ : Addr).add j) = some u) →
      ∃ s' w', (Builtin.append_ #[t, t] ty #[.slice s.a rows.length s.cap, .slice A news.length c]).run P w = .ok (.slice s'.a (rows.length + news.length) s'.cap) w' ∧ Own w' base e k s' (rows ++ news) ∧ w.grownBy w' s.blk ∧ (s'.blk = s.blk ∨ s'.blk = some w.heap.size) := by
    intro b o hA hcells
    obtain ⟨i, z, hi, hz, h1, h2, h3⟩ := he.info
    obtain ⟨v', w', hrun, hown, hg, _, hb⟩ := run_append_own_at (P := P) w base t ty e i z k bytes he.und hi hz h1 h2 h3 he.pos (.slice s.a rows.length s.cap) rows.length (flat rows) h.own ⟨b, o, none⟩ news.length c (flat news) (flat_length hs.size) hcells hs.vals hl1 hl2 hbase
    rw [ownBlock_slice] at hg hb
    have hform : ∃ s' : Sl, v' = .slice s'.a (rows.length + news.length) s'.cap := by
      rcases hown.2 with ⟨hv, hn⟩ | ⟨g, cap, cur, hv, _⟩
      · exact ⟨⟨none, 0⟩, by rw [hv, hn]⟩
      · exact ⟨⟨some ⟨g, 0, none⟩, cap⟩, hv⟩
    obtain ⟨s', rfl⟩ := hform
    rw [ownBlock_slice] at hb
    refine ⟨s', w', by rw [hA]; exact hrun, ⟨by rw [List.length_append, flat_append]; exact hown, fun r hr => ?_⟩, hg, hb⟩
    rcases List.mem_append.1 hr with hr | hr
    · exact h.size r hr
    · exact hs.size r hr
  rcases Nat.eq_zero_or_pos news.length with hn | hn
  · obtain rfl : news = [] := List.eq_nil_of_length_eq_zero hn
    cases A with
    | none =>
      refine ⟨s, w, ?_, by simpa using h, World.grownBy.refl w _, .inl rfl⟩
      exact run_append_nil he w h c
    | some a =>
      obtain ⟨i, z, hi, hz, h1, h2, h3⟩ := he.info
      obtain ⟨v', w', hrun, hown, hg, _, hb⟩ := run_append_own_at (P := P) w base t ty e i z k bytes he.und hi hz h1 h2 h3 he.pos (.slice s.a rows.length s.cap) rows.length (flat rows) h.own a 0 c [] (by simp) (by simp) (by simp) hl1 hl2 hbase
      rw [ownBlock_slice] at hg hb
      have hform : ∃ s' : Sl, v' = .slice s'.a (rows.length + 0) s'.cap := by
        rcases hown.2 with ⟨hv, hn⟩ | ⟨g, cap, cur, hv, _⟩
        · exact ⟨⟨none, 0⟩, by rw [hv, hn]⟩
        · exact ⟨⟨some ⟨g, 0, none⟩, cap⟩, hv⟩
      obtain ⟨s', rfl⟩ := hform
      rw [ownBlock_slice] at hb
      exact ⟨s', w', hrun, ⟨by simpa using hown, by simpa using h.size⟩, hg, hb⟩
  · obtain ⟨b, o, hA, hc⟩ := hs.cells he.pos hn
    exact main b o hA hc

theorem wp_append_rows {P : Program} {o : Oper} {a : Act} {w : World} {K : Act → World → Prop} {Q : Exit → Act → World → Prop} (x y : Operand) (t : TypeId) (ho : o.op = .call { callee := .builtin .append, args := #[x, y], argTypes := #[t, t] })
    {e : TypeId} {k bytes : Nat} (he : ElemOk P t e k bytes) {base : Nat} {s : Sl} {rows : List (Array Value)} (hx : a.eval x = .slice s.a rows.length s.cap) (h : Own w base e k s rows) {A : Option Addr} {news : List (Array Value)} {m c : Nat}
    (hy : a.eval y = .slice A m c) (hm : m = news.length) (hs : SrcRows w k A news) (hlen : (rows.length + news.length) * (bytes + 1) ≤ 140737488355328) (hbase : base ≤ w.heap.size)
    (hK : ∀ (s' : Sl) w', Own w' base e k s' (rows ++ news) → w.grownBy w' s.blk → (s'.blk = s.blk ∨ s'.blk = some w.heap.size) → K (a.put o.dst (.slice s'.a (rows.length + news.length) s'.cap)) w') : o.wp P a w K Q := by
  subst hm
  obtain ⟨s', w', hrun, h2, h3, h4⟩ := run_append_rows (ty := o.type) he w h c hs hlen hbase
  unfold Oper.wp execOp
  simp only [ho, resolve, invoke, builtin, Sem.run_bind, Sem.run_pure, Result.andThen_ok, List.map_toArray, List.map_cons, List.map_nil, hx, hy, hrun]
  exact hK s' w' h2 h3 h4

theorem wpList_append_rows {P : Program} {ops : Array Oper} {rest : List Oper} {o : Oper} {a : Act} {w : World} {Q : Exit → Act → World → Prop} (hgd : o.guard = none) (x y : Operand) (t : TypeId) (ho : o.op = .call { callee := .builtin .append, args := #[x, y], argTypes := #[t, t] })
    {e : TypeId} {k bytes : Nat} (he : ElemOk P t e k bytes) {base : Nat} {s : Sl} {rows : List (Array Value)} (hx : a.eval x = .slice s.a rows.length s.cap) (h : Own w base e k s rows) {A : Option Addr} {news : List (Array Value)} {m c : Nat}
    (hy : a.eval y = .slice A m c) (hm : m = news.length) (hs : SrcRows w k A news) (hlen : (rows.length + news.length) * (bytes + 1) ≤ 140737488355328) (hbase : base ≤ w.heap.size)
    (hK : ∀ (s' : Sl) w', Own w' base e k s' (rows ++ news) → w.grownBy w' s.blk → (s'.blk = s.blk ∨ s'.blk = some w.heap.size) → wpList P ops Q rest (a.put o.dst (.slice s'.a (rows.length + news.length) s'.cap)) w') : wpList P ops Q (o :: rest) a w :=
  wpList_plain hgd fun _ hK' => wp_append_rows x y t ho he hx h hy hm hs hlen hbase fun s' w' h2 h3 h4 => hK' _ _ (hK s' w' h2 h3 h4)

/-! ### What depends on some blocks alone -/

def Dep (w : World) (S : Nat → Prop) (Φ : World → Prop) : Prop := ∀ w' : World, (∀ k, S k → w'.heap[k]? = w.heap[k]?) → Φ w'
theorem Dep.out {w : World} {S : Nat → Prop} {Φ : World → Prop} (h : Dep w S Φ) : Φ w := h w fun _ _ => rfl
theorem Dep.to {w w1 : World} {S S1 : Nat → Prop} {Φ : World → Prop} (h : Dep w S Φ) (hw : ∀ k, S k → w1.heap[k]? = w.heap[k]?) (hS : ∀ k, S k → S1 k) : Dep w1 S1 Φ :=
  fun w' hw' => h w' fun k hk => (hw' k (hS k hk)).trans (hw k hk)
def fresh (base : Nat) (w : World) : Nat → Prop := fun k => base ≤ k ∧ k < w.heap.size
def freshBut (base : Nat) (w : World) (g : Option Nat) : Nat → Prop := fun k => base ≤ k ∧ k < w.heap.size ∧ some k ≠ g
end Go.WW

namespace Go.WW
open Go.RowKit
theorem every_no {α : Type} {q : α → Bool} {l : List α} {most : Int} (h : decide (most < (l.length : Int)) = true) : (decide ((l.length : Int) ≤ most) && l.all q) = false := by
  rw [decide_eq_true_eq] at h
  rw [decide_eq_false (by omega)]; rfl
theorem every_yes {α : Type} {q : α → Bool} {l : List α} {most : Int} (h : decide (most < (l.length : Int)) = false) : (decide ((l.length : Int) ≤ most) && l.all q) = l.all q := by
  rw [decide_eq_false_iff_not] at h
  rw [decide_eq_true (p := (l.length : Int) ≤ most) (by omega)]; rfl
end Go.WW
namespace Go.Proofs.YtnpddjmjdpgohaaGreatDoor
open Go.RowKit Go.WW
structure Enters (f : FuncId) : Prop where
  run : ∀ (args : Array Value) (w : World), (callFunc f args).run Tryz.prog w = .ok (.enter f args) w


set_option maxHeartbeats 1000000 in
theorem everyPrin0_nil (a : Option Addr) (cap f : Nat) (most : Int) (w : World) : Calls Tryz.prog 115 #[.slice a 0 cap, .int .i64 most, .func (.func f) #[] #[]] w fun e w' => e = .returned (.bool (decide ((0 : Int) ≤ most))) ∧ Below w.heap.size w w' := by
  go_enter Tryz.func115, Tryz.ntmps115
  cases hm : decide (most < (0 : Int))
  · have HN := Lib.hid (show decide ((0 : Int) ≤ most) = true by simp at hm ⊢; omega)
    go_wp2_with fail
    refine wp_loop_rounds 1 ?_
    rw [rounds_succ]
    go_wp2_with fail
    go_ret
    exact ⟨by rw [HN.out]; rfl, Below.refl _ _⟩
  · have HN := Lib.hid (show decide ((0 : Int) ≤ most) = false by simp at hm ⊢; omega)
    go_wp2_with fail
    go_ret
    exact ⟨by rw [HN.out]; rfl, Below.refl _ _⟩

set_option maxRecDepth 100000 in
set_option maxHeartbeats 1000000 in
theorem everyPrin0_c (a : Option Addr) (cap f : Nat) (most : Int) (l : List Prin) (q : Prin → Bool) (w : World) (hcf : Enters f) (hl : PrinsAt w a l)
    (hf : ∀ (x : Later w) (s : Sl) (p : Prin), p ∈ l → PrinAt x.w s p → Calls Tryz.prog f #[.agg (prinC s p)] x.w fun e w' => e = .returned (.bool (q p)) ∧ Below x.w.heap.size x.w w') :
    Calls Tryz.prog 115 #[.slice a l.length cap, .int .i64 most, .func (.func f) #[] #[]] w fun e w' => e = .returned (.bool (decide ((l.length : Int) ≤ most) && l.all q)) ∧ Below w.heap.size w w' := by
  have hn : l.length ≤ 4294967000 := hl.1
  rcases RowsAt.addr hl with h0 | ⟨b, o, rfl, hb⟩
  · obtain rfl : l = [] := List.eq_nil_of_length_eq_zero h0
    have := everyPrin0_nil a cap f most w
    simpa using this
  have HF := Lib.hid hf
  have hcf' := hcf.run
  clear hf hcf
  go_enter Tryz.func115, Tryz.ntmps115
  cases hm : decide (most < (l.length : Int))
  · have HM := Lib.hid (every_yes (q := q) hm)
    go_wp2_with fail
    go_loopw [15] (fun i wr => Below w.heap.size w wr ∧ ∃ k : Nat, k ≤ l.length ∧ i = .int .i64 k ∧ Hid ((l.take k).all q = true)) (fun i _ => l.length - (intOf i).toNat)
    case atStart => exact ⟨Below.refl _ _, 0, Nat.zero_le _, rfl, by simp [Hid]⟩
    case round =>
      obtain ⟨hbr, k, hk, rfl, hall⟩ := hrel
      by_cases hlt : k < l.length
      · obtain ⟨t, hc, hp⟩ := hl.at k hlt
        obtain ⟨hcc, hff, hrr⟩ := bcell hbr
        go_wp2_with fail
        have hb1 := below_new hbr (.cells (prinC t l[k]) 24)
        have HB := Lib.hid hb1
        clear hb1
        refine (HF.out ⟨_, HB.out⟩ t l[k] (List.getElem_mem hlt) (hp.later HB.out)).mono ?_
        rintro e w1 ⟨rfl, hb2⟩
        have hb3 := below_step HB.out hb2
        clear hcc hff hrr
        cases hv : q l[k]
        · have HN := Lib.hid (lall_no l k hlt hv)
          go_wp2_with fail
          go_ret
          exact ⟨by rw [HM.out, HN.out]; rfl, hb3⟩
        · have HN := Lib.hid (lall_step l k hlt hall.out hv)
          go_wp2_with fail
          go_roundw
          case rel => exact ⟨hb3, k + 1, by omega, by go_num, HN.out⟩
          case measure => simp [intOf]; omega
      · have HN := Lib.hid (lall_end l k (by omega) hall.out)
        go_wp2_with fail
        go_ret
        exact ⟨by rw [HM.out, HN.out]; rfl, hbr⟩
  · have HM := Lib.hid (every_no (q := q) hm)
    go_wp2_with fail
    go_ret
    exact ⟨by rw [HM.out]; rfl, Below.refl _ _⟩


set_option maxHeartbeats 1000000 in
theorem everyPrin1_nil (a : Option Addr) (cap f : Nat) (most : Int) (B0 : Nat) (w : World) : Calls Tryz.prog 115 #[.slice a 0 cap, .int .i64 most, .func (.func f) #[] #[.pointer (some ⟨B0, 0, none⟩)]] w fun e w' => e = .returned (.bool (decide ((0 : Int) ≤ most))) ∧ Below w.heap.size w w' := by
  go_enter Tryz.func115, Tryz.ntmps115
  cases hm : decide (most < (0 : Int))
  · have HN := Lib.hid (show decide ((0 : Int) ≤ most) = true by simp at hm ⊢; omega)
    go_wp2_with fail
    refine wp_loop_rounds 1 ?_
    rw [rounds_succ]
    go_wp2_with fail
    go_ret
    exact ⟨by rw [HN.out]; rfl, Below.refl _ _⟩
  · have HN := Lib.hid (show decide ((0 : Int) ≤ most) = false by simp at hm ⊢; omega)
    go_wp2_with fail
    go_ret
    exact ⟨by rw [HN.out]; rfl, Below.refl _ _⟩

set_option maxRecDepth 100000 in
set_option maxHeartbeats 1000000 in
theorem everyPrin1_c (a : Option Addr) (cap f : Nat) (most : Int) (l : List Prin) (B0 : Nat) (q : Prin → Bool) (w : World) (hcf : Enters f) (hl : PrinsAt w a l)
    (hf : ∀ (x : Later w) (s : Sl) (p : Prin), p ∈ l → PrinAt x.w s p → Calls Tryz.prog f #[.agg (prinC s p), .pointer (some ⟨B0, 0, none⟩)] x.w fun e w' => e = .returned (.bool (q p)) ∧ Below x.w.heap.size x.w w') :
    Calls Tryz.prog 115 #[.slice a l.length cap, .int .i64 most, .func (.func f) #[] #[.pointer (some ⟨B0, 0, none⟩)]] w fun e w' => e = .returned (.bool (decide ((l.length : Int) ≤ most) && l.all q)) ∧ Below w.heap.size w w' := by
  have hn : l.length ≤ 4294967000 := hl.1
  rcases RowsAt.addr hl with h0 | ⟨b, o, rfl, hb⟩
  · obtain rfl : l = [] := List.eq_nil_of_length_eq_zero h0
    have := everyPrin1_nil a cap f most B0 w
    simpa using this
  have HF := Lib.hid hf
  have hcf' := hcf.run
  clear hf hcf
  go_enter Tryz.func115, Tryz.ntmps115
  cases hm : decide (most < (l.length : Int))
  · have HM := Lib.hid (every_yes (q := q) hm)
    go_wp2_with fail
    go_loopw [15] (fun i wr => Below w.heap.size w wr ∧ ∃ k : Nat, k ≤ l.length ∧ i = .int .i64 k ∧ Hid ((l.take k).all q = true)) (fun i _ => l.length - (intOf i).toNat)
    case atStart => exact ⟨Below.refl _ _, 0, Nat.zero_le _, rfl, by simp [Hid]⟩
    case round =>
      obtain ⟨hbr, k, hk, rfl, hall⟩ := hrel
      by_cases hlt : k < l.length
      · obtain ⟨t, hc, hp⟩ := hl.at k hlt
        obtain ⟨hcc, hff, hrr⟩ := bcell hbr
        go_wp2_with fail
        have hb1 := below_new hbr (.cells (prinC t l[k]) 24)
        have HB := Lib.hid hb1
        clear hb1
        refine (HF.out ⟨_, HB.out⟩ t l[k] (List.getElem_mem hlt) (hp.later HB.out)).mono ?_
        rintro e w1 ⟨rfl, hb2⟩
        have hb3 := below_step HB.out hb2
        clear hcc hff hrr
        cases hv : q l[k]
        · have HN := Lib.hid (lall_no l k hlt hv)
          go_wp2_with fail
          go_ret
          exact ⟨by rw [HM.out, HN.out]; rfl, hb3⟩
        · have HN := Lib.hid (lall_step l k hlt hall.out hv)
          go_wp2_with fail
          go_roundw
          case rel => exact ⟨hb3, k + 1, by omega, by go_num, HN.out⟩
          case measure => simp [intOf]; omega
      · have HN := Lib.hid (lall_end l k (by omega) hall.out)
        go_wp2_with fail
        go_ret
        exact ⟨by rw [HM.out, HN.out]; rfl, hbr⟩
  · have HM := Lib.hid (every_no (q := q) hm)
    go_wp2_with fail
    go_ret
    exact ⟨by rw [HM.out]; rfl, Below.refl _ _⟩


set_option maxHeartbeats 1000000 in
theorem everySet1_nil (a : Option Addr) (cap f : Nat) (most : Int) (B0 : Nat) (w : World) : Calls Tryz.prog 117 #[.slice a 0 cap, .int .i64 most, .func (.func f) #[] #[.pointer (some ⟨B0, 0, none⟩)]] w fun e w' => e = .returned (.bool (decide ((0 : Int) ≤ most))) ∧ Below w.heap.size w w' := by
  go_enter Tryz.func117, Tryz.ntmps117
  cases hm : decide (most < (0 : Int))
  · have HN := Lib.hid (show decide ((0 : Int) ≤ most) = true by simp at hm ⊢; omega)
    go_wp2_with fail
    refine wp_loop_rounds 1 ?_
    rw [rounds_succ]
    go_wp2_with fail
    go_ret
    exact ⟨by rw [HN.out]; rfl, Below.refl _ _⟩
  · have HN := Lib.hid (show decide ((0 : Int) ≤ most) = false by simp at hm ⊢; omega)
    go_wp2_with fail
    go_ret
    exact ⟨by rw [HN.out]; rfl, Below.refl _ _⟩

set_option maxRecDepth 100000 in
set_option maxHeartbeats 1000000 in
theorem everySet1_c (a : Option Addr) (cap f : Nat) (most : Int) (l : List KeySet) (B0 : Nat) (q : KeySet → Bool) (w : World) (hcf : Enters f) (hl : SetsAt w a l)
    (hf : ∀ (x : Later w) (s : Sl) (p : KeySet), p ∈ l → SetAt x.w s p → Calls Tryz.prog f #[.agg (setC s p), .pointer (some ⟨B0, 0, none⟩)] x.w fun e w' => e = .returned (.bool (q p)) ∧ Below x.w.heap.size x.w w') :
    Calls Tryz.prog 117 #[.slice a l.length cap, .int .i64 most, .func (.func f) #[] #[.pointer (some ⟨B0, 0, none⟩)]] w fun e w' => e = .returned (.bool (decide ((l.length : Int) ≤ most) && l.all q)) ∧ Below w.heap.size w w' := by
  have hn : l.length ≤ 4294967000 := hl.1
  rcases RowsAt.addr hl with h0 | ⟨b, o, rfl, hb⟩
  · obtain rfl : l = [] := List.eq_nil_of_length_eq_zero h0
    have := everySet1_nil a cap f most B0 w
    simpa using this
  have HF := Lib.hid hf
  have hcf' := hcf.run
  clear hf hcf
  go_enter Tryz.func117, Tryz.ntmps117
  cases hm : decide (most < (l.length : Int))
  · have HM := Lib.hid (every_yes (q := q) hm)
    go_wp2_with fail
    go_loopw [15] (fun i wr => Below w.heap.size w wr ∧ ∃ k : Nat, k ≤ l.length ∧ i = .int .i64 k ∧ Hid ((l.take k).all q = true)) (fun i _ => l.length - (intOf i).toNat)
    case atStart => exact ⟨Below.refl _ _, 0, Nat.zero_le _, rfl, by simp [Hid]⟩
    case round =>
      obtain ⟨hbr, k, hk, rfl, hall⟩ := hrel
      by_cases hlt : k < l.length
      · obtain ⟨t, hc, hp⟩ := hl.at k hlt
        obtain ⟨hcc, hff, hrr⟩ := bcell hbr
        go_wp2_with fail
        have hb1 := below_new hbr (.cells (setC t l[k]) 63)
        have HB := Lib.hid hb1
        clear hb1
        refine (HF.out ⟨_, HB.out⟩ t l[k] (List.getElem_mem hlt) (hp.later HB.out)).mono ?_
        rintro e w1 ⟨rfl, hb2⟩
        have hb3 := below_step HB.out hb2
        clear hcc hff hrr
        cases hv : q l[k]
        · have HN := Lib.hid (lall_no l k hlt hv)
          go_wp2_with fail
          go_ret
          exact ⟨by rw [HM.out, HN.out]; rfl, hb3⟩
        · have HN := Lib.hid (lall_step l k hlt hall.out hv)
          go_wp2_with fail
          go_roundw
          case rel => exact ⟨hb3, k + 1, by omega, by go_num, HN.out⟩
          case measure => simp [intOf]; omega
      · have HN := Lib.hid (lall_end l k (by omega) hall.out)
        go_wp2_with fail
        go_ret
        exact ⟨by rw [HM.out, HN.out]; rfl, hbr⟩
  · have HM := Lib.hid (every_no (q := q) hm)
    go_wp2_with fail
    go_ret
    exact ⟨by rw [HM.out]; rfl, Below.refl _ _⟩


set_option maxHeartbeats 1000000 in
theorem everyKey2_nil (a : Option Addr) (cap f : Nat) (most : Int) (B0 : Nat) (B1 : Nat) (w : World) : Calls Tryz.prog 136 #[.slice a 0 cap, .int .i64 most, .func (.func f) #[] #[.pointer (some ⟨B0, 0, none⟩), .pointer (some ⟨B1, 0, none⟩)]] w fun e w' => e = .returned (.bool (decide ((0 : Int) ≤ most))) ∧ Below w.heap.size w w' := by
  go_enter Tryz.func136, Tryz.ntmps136
  cases hm : decide (most < (0 : Int))
  · have HN := Lib.hid (show decide ((0 : Int) ≤ most) = true by simp at hm ⊢; omega)
    go_wp2_with fail
    refine wp_loop_rounds 1 ?_
    rw [rounds_succ]
    go_wp2_with fail
    go_ret
    exact ⟨by rw [HN.out]; rfl, Below.refl _ _⟩
  · have HN := Lib.hid (show decide ((0 : Int) ≤ most) = false by simp at hm ⊢; omega)
    go_wp2_with fail
    go_ret
    exact ⟨by rw [HN.out]; rfl, Below.refl _ _⟩

set_option maxRecDepth 100000 in
set_option maxHeartbeats 1000000 in
theorem everyKey2_c (a : Option Addr) (cap f : Nat) (most : Int) (l : List Key) (B0 : Nat) (B1 : Nat) (q : Key → Bool) (w : World) (hcf : Enters f) (hl : KeysAt w a l)
    (hf : ∀ (x : Later w) (s : Sl) (p : Key), p ∈ l → KeyAt x.w s p → Calls Tryz.prog f #[.agg (keyC s p), .pointer (some ⟨B0, 0, none⟩), .pointer (some ⟨B1, 0, none⟩)] x.w fun e w' => e = .returned (.bool (q p)) ∧ Below x.w.heap.size x.w w') :
    Calls Tryz.prog 136 #[.slice a l.length cap, .int .i64 most, .func (.func f) #[] #[.pointer (some ⟨B0, 0, none⟩), .pointer (some ⟨B1, 0, none⟩)]] w fun e w' => e = .returned (.bool (decide ((l.length : Int) ≤ most) && l.all q)) ∧ Below w.heap.size w w' := by
  have hn : l.length ≤ 4294967000 := hl.1
  rcases RowsAt.addr hl with h0 | ⟨b, o, rfl, hb⟩
  · obtain rfl : l = [] := List.eq_nil_of_length_eq_zero h0
    have := everyKey2_nil a cap f most B0 B1 w
    simpa using this
  have HF := Lib.hid hf
  have hcf' := hcf.run
  clear hf hcf
  go_enter Tryz.func136, Tryz.ntmps136
  cases hm : decide (most < (l.length : Int))
  · have HM := Lib.hid (every_yes (q := q) hm)
    go_wp2_with fail
    go_loopw [15] (fun i wr => Below w.heap.size w wr ∧ ∃ k : Nat, k ≤ l.length ∧ i = .int .i64 k ∧ Hid ((l.take k).all q = true)) (fun i _ => l.length - (intOf i).toNat)
    case atStart => exact ⟨Below.refl _ _, 0, Nat.zero_le _, rfl, by simp [Hid]⟩
    case round =>
      obtain ⟨hbr, k, hk, rfl, hall⟩ := hrel
      by_cases hlt : k < l.length
      · obtain ⟨t, hc, hp⟩ := hl.at k hlt
        obtain ⟨hcc, hff, hrr⟩ := bcell hbr
        go_wp2_with fail
        have hb1 := below_new hbr (.cells (keyC t l[k]) 143)
        have HB := Lib.hid hb1
        clear hb1
        refine (HF.out ⟨_, HB.out⟩ t l[k] (List.getElem_mem hlt) (hp.later HB.out)).mono ?_
        rintro e w1 ⟨rfl, hb2⟩
        have hb3 := below_step HB.out hb2
        clear hcc hff hrr
        cases hv : q l[k]
        · have HN := Lib.hid (lall_no l k hlt hv)
          go_wp2_with fail
          go_ret
          exact ⟨by rw [HM.out, HN.out]; rfl, hb3⟩
        · have HN := Lib.hid (lall_step l k hlt hall.out hv)
          go_wp2_with fail
          go_roundw
          case rel => exact ⟨hb3, k + 1, by omega, by go_num, HN.out⟩
          case measure => simp [intOf]; omega
      · have HN := Lib.hid (lall_end l k (by omega) hall.out)
        go_wp2_with fail
        go_ret
        exact ⟨by rw [HM.out, HN.out]; rfl, hbr⟩
  · have HM := Lib.hid (every_no (q := q) hm)
    go_wp2_with fail
    go_ret
    exact ⟨by rw [HM.out]; rfl, Below.refl _ _⟩


set_option maxHeartbeats 1000000 in
theorem everyHist_nil (a : Option Addr) (cap f : Nat) (most : Int) (w : World) : Calls Tryz.prog 93 #[.slice a 0 cap, .int .i64 most, .func (.func f) #[] #[]] w fun e w' => e = .returned (.bool (decide ((0 : Int) ≤ most))) ∧ Below w.heap.size w w' := by
  go_enter Tryz.func93, Tryz.ntmps93
  cases hm : decide (most < (0 : Int))
  · have HN := Lib.hid (show decide ((0 : Int) ≤ most) = true by simp at hm ⊢; omega)
    go_wp2_with fail
    refine wp_loop_rounds 1 ?_
    rw [rounds_succ]
    go_wp2_with fail
    go_ret
    exact ⟨by rw [HN.out]; rfl, Below.refl _ _⟩
  · have HN := Lib.hid (show decide ((0 : Int) ≤ most) = false by simp at hm ⊢; omega)
    go_wp2_with fail
    go_ret
    exact ⟨by rw [HN.out]; rfl, Below.refl _ _⟩

set_option maxRecDepth 100000 in
set_option maxHeartbeats 1000000 in
theorem everyHist_c (a : Option Addr) (cap f : Nat) (most : Int) (l : List (List UInt8)) (q : (List UInt8) → Bool) (w : World) (hcf : Enters f) (hl : HistAt w a l)
    (hf : ∀ (x : Later w) (s : Sl) (p : (List UInt8)), p ∈ l → (fun w (s : Sl) p => BytesAt w s.a p) x.w s p → Calls Tryz.prog f #[.slice s.a p.length s.cap] x.w fun e w' => e = .returned (.bool (q p)) ∧ Below x.w.heap.size x.w w') :
    Calls Tryz.prog 93 #[.slice a l.length cap, .int .i64 most, .func (.func f) #[] #[]] w fun e w' => e = .returned (.bool (decide ((l.length : Int) ≤ most) && l.all q)) ∧ Below w.heap.size w w' := by
  have hn : l.length ≤ 4294967000 := hl.1
  rcases CellsAt.addr hl with h0 | ⟨b, o, rfl, hb⟩
  · obtain rfl : l = [] := List.eq_nil_of_length_eq_zero h0
    have := everyHist_nil a cap f most w
    simpa using this
  have HF := Lib.hid hf
  have hcf' := hcf.run
  clear hf hcf
  go_enter Tryz.func93, Tryz.ntmps93
  cases hm : decide (most < (l.length : Int))
  · have HM := Lib.hid (every_yes (q := q) hm)
    go_wp2_with fail
    go_loopw [15] (fun i wr => Below w.heap.size w wr ∧ ∃ k : Nat, k ≤ l.length ∧ i = .int .i64 k ∧ Hid ((l.take k).all q = true)) (fun i _ => l.length - (intOf i).toNat)
    case atStart => exact ⟨Below.refl _ _, 0, Nat.zero_le _, rfl, by simp [Hid]⟩
    case round =>
      obtain ⟨hbr, k, hk, rfl, hall⟩ := hrel
      by_cases hlt : k < l.length
      · obtain ⟨t, hc, hp⟩ := hl.at k hlt
        obtain ⟨hcc, hff, hrr⟩ := bcell hbr
        go_wp2_with fail
        have hb1 := hbr
        have HB := Lib.hid hb1
        clear hb1
        refine (HF.out ⟨_, HB.out⟩ t l[k] (List.getElem_mem hlt) (hp.later HB.out)).mono ?_
        rintro e w1 ⟨rfl, hb2⟩
        have hb3 := below_step HB.out hb2
        clear hcc hff hrr
        cases hv : q l[k]
        · have HN := Lib.hid (lall_no l k hlt hv)
          go_wp2_with fail
          go_ret
          exact ⟨by rw [HM.out, HN.out]; rfl, hb3⟩
        · have HN := Lib.hid (lall_step l k hlt hall.out hv)
          go_wp2_with fail
          go_roundw
          case rel => exact ⟨hb3, k + 1, by omega, by go_num, HN.out⟩
          case measure => simp [intOf]; omega
      · have HN := Lib.hid (lall_end l k (by omega) hall.out)
        go_wp2_with fail
        go_ret
        exact ⟨by rw [HM.out, HN.out]; rfl, hbr⟩
  · have HM := Lib.hid (every_no (q := q) hm)
    go_wp2_with fail
    go_ret
    exact ⟨by rw [HM.out]; rfl, Below.refl _ _⟩

end Go.Proofs.YtnpddjmjdpgohaaGreatDoor

namespace Go.WW
theorem ordd_no {α : Type} {r : α → α → Bool} {l : List α} (j : Nat) (h : j + 1 < l.length) (hr : r l[j] l[j + 1] = false) : ordered r l = false := by
  refine rall_no _ (j + 1) h ?_
  simp [ordAt, h, show j < l.length by omega, hr]
theorem ordd_go {α : Type} {r : α → α → Bool} {l : List α} (j : Nat) (h : j + 1 < l.length) (hall : (List.range (j + 1)).all (ordAt r l) = true) (hr : r l[j] l[j + 1] = true) : (List.range (j + 1 + 1)).all (ordAt r l) = true := by
  refine rall_step (j + 1) hall ?_
  simp [ordAt, h, show j < l.length by omega, hr]
theorem ordd_end {α : Type} {r : α → α → Bool} {l : List α} (j : Nat) (h : ¬ j + 1 < l.length) (hall : (List.range (j + 1)).all (ordAt r l) = true) : ordered r l = true := by
  rw [ordered, List.all_eq_true]
  rw [List.all_eq_true] at hall
  intro i hi
  exact hall i (by simp at hi ⊢; omega)
theorem ordd_one {α : Type} (r : α → α → Bool) (l : List α) : (List.range (0 + 1)).all (ordAt r l) = true := by simp [ordAt]
theorem setGt_1 {a b : KeySet} (h : decide (b.version < a.version) = false) : setGt a b = false := by rw [setGt, h]; rfl
theorem setGt_2 {a b : KeySet} (h : decide (b.version < a.version) = true) : setGt a b = decide (b.created ≤ a.created) := by rw [setGt, h]; rfl
end Go.WW
namespace Go.Proofs.YtnpddjmjdpgohaaGreatDoor
open Go.RowKit Go.WW
theorem profLt_c (s t : Sl) (a b : Key) (w : World) : Calls Tryz.prog 138 #[.agg (keyC s a), .agg (keyC t b)] w fun e w' => e = .returned (.bool (profLt a b)) ∧ Below w.heap.size w w' := by
  go_enter Tryz.func138, Tryz.ntmps138
  go_wp2_with fail
  go_ret
  exact ⟨by rfl, ((Below.refl _ _).alloc (Nat.le_refl _) _).alloc (by simp) _⟩
theorem setGt_c (s t : Sl) (a b : KeySet) (w : World) : Calls Tryz.prog 121 #[.agg (setC s a), .agg (setC t b)] w fun e w' => e = .returned (.bool (setGt a b)) ∧ Below w.heap.size w w' := by
  go_enter Tryz.func121, Tryz.ntmps121
  cases h : decide (b.version < a.version)
  · have HN := Lib.hid (setGt_1 h)
    go_wp2_with fail
    go_ret
    exact ⟨by rw [HN.out]; rfl, ((Below.refl _ _).alloc (Nat.le_refl _) _).alloc (by simp) _⟩
  · have HN := Lib.hid (setGt_2 h)
    go_wp2_with fail
    go_ret
    exact ⟨by rw [HN.out]; rfl, ((Below.refl _ _).alloc (Nat.le_refl _) _).alloc (by simp) _⟩


set_option maxHeartbeats 1000000 in
theorem ordKey_nil (a : Option Addr) (cap : Nat) (w : World) : Calls Tryz.prog 137 #[.slice a 0 cap, .func (.func 138) #[] #[]] w fun e w' => e = .returned (.bool true) ∧ Below w.heap.size w w' := by
  go_enter Tryz.func137, Tryz.ntmps137
  go_wp2_with fail
  refine wp_loop_rounds 1 ?_
  rw [rounds_succ]
  go_wp2_with fail
  go_ret
  exact ⟨rfl, Below.refl _ _⟩
set_option maxRecDepth 100000 in
set_option maxHeartbeats 1000000 in
theorem ordKey_c (a : Option Addr) (cap : Nat) (l : List Key) (w : World) (hl : KeysAt w a l) :
    Calls Tryz.prog 137 #[.slice a l.length cap, .func (.func 138) #[] #[]] w fun e w' => e = .returned (.bool (ordered profLt l)) ∧ Below w.heap.size w w' := by
  have hn : l.length ≤ 4294967000 := hl.1
  rcases RowsAt.addr hl with h0 | ⟨b, o, rfl, hb⟩
  · obtain rfl : l = [] := List.eq_nil_of_length_eq_zero h0
    exact ordKey_nil a cap w
  go_enter Tryz.func137, Tryz.ntmps137
  go_wp2_with fail
  go_loopw [5] (fun i wr => Below w.heap.size w wr ∧ ∃ j : Nat, j ≤ l.length ∧ i = .int .i64 ((j : Int) + 1) ∧ Hid ((List.range (j + 1)).all (ordAt profLt l) = true)) (fun i _ => l.length + 1 - (intOf i).toNat)
  case atStart => exact ⟨Below.refl _ _, 0, Nat.zero_le _, rfl, ordd_one _ _⟩
  case round =>
    obtain ⟨hbr, j, hj, rfl, hall⟩ := hrel
    by_cases hlt : j + 1 < l.length
    · obtain ⟨s, hc, hp⟩ := hl.at j (by omega)
      obtain ⟨t, hc', hp'⟩ := hl.at (j + 1) hlt
      have hlt' : ((j : Int) + 1 < (l.length : Int)) := by omega
      have hjj : (j : Int) + 1 - 1 = (j : Int) := by omega
      have ht1 : ((j : Int) + 1).toNat = j + 1 := by omega
      have h00 : (0 : Int) ≤ (j : Int) + 1 := by omega
      have hw1 : IntKind.i64.wrap ((j : Int) + 1 - 1) = (j : Int) := by rw [hjj]; exact IntWalk.i64_in _ (by omega)
      have hjl : j < l.length := by omega
      cases hv : profLt l[j] l[j + 1]
      · have HN := Lib.hid (ordd_no j hlt hv)
        go_wp2_with fail
        refine wp_region_later hbr (by kernel_rfl) (by kernel_rfl) ?_
        repeat (go_big_quiet_step ((go_at_call 138; exact Calls.later_of (profLt_c _ _ _ _ _))))
        refine wpQuiet_nil ?_
        intro w2 hb2
        rw [hv]
        go_wp2_with fail
        go_ret
        exact ⟨by rw [HN.out]; rfl, hb2⟩
      · have HN := Lib.hid (ordd_go j hlt hall.out hv)
        go_wp2_with fail
        refine wp_region_later hbr (by kernel_rfl) (by kernel_rfl) ?_
        repeat (go_big_quiet_step ((go_at_call 138; exact Calls.later_of (profLt_c _ _ _ _ _))))
        refine wpQuiet_nil ?_
        intro w2 hb2
        rw [hv]
        go_wp2_with fail
        clear hjj ht1 h00 hw1
        go_roundw
        case rel => exact ⟨hb2, j + 1, by omega, by go_num, HN.out⟩
        case measure => simp [intOf]; omega
    · have HN := Lib.hid (ordd_end j hlt hall.out)
      have hlt' : ¬ ((j : Int) + 1 < (l.length : Int)) := by omega
      go_wp2_with fail
      go_ret
      exact ⟨by rw [HN.out]; rfl, hbr⟩


set_option maxHeartbeats 1000000 in
theorem ordSet_nil (a : Option Addr) (cap : Nat) (w : World) : Calls Tryz.prog 120 #[.slice a 0 cap, .func (.func 121) #[] #[]] w fun e w' => e = .returned (.bool true) ∧ Below w.heap.size w w' := by
  go_enter Tryz.func120, Tryz.ntmps120
  go_wp2_with fail
  refine wp_loop_rounds 1 ?_
  rw [rounds_succ]
  go_wp2_with fail
  go_ret
  exact ⟨rfl, Below.refl _ _⟩
set_option maxRecDepth 100000 in
set_option maxHeartbeats 1000000 in
theorem ordSet_c (a : Option Addr) (cap : Nat) (l : List KeySet) (w : World) (hl : SetsAt w a l) :
    Calls Tryz.prog 120 #[.slice a l.length cap, .func (.func 121) #[] #[]] w fun e w' => e = .returned (.bool (ordered setGt l)) ∧ Below w.heap.size w w' := by
  have hn : l.length ≤ 4294967000 := hl.1
  rcases RowsAt.addr hl with h0 | ⟨b, o, rfl, hb⟩
  · obtain rfl : l = [] := List.eq_nil_of_length_eq_zero h0
    exact ordSet_nil a cap w
  go_enter Tryz.func120, Tryz.ntmps120
  go_wp2_with fail
  go_loopw [5] (fun i wr => Below w.heap.size w wr ∧ ∃ j : Nat, j ≤ l.length ∧ i = .int .i64 ((j : Int) + 1) ∧ Hid ((List.range (j + 1)).all (ordAt setGt l) = true)) (fun i _ => l.length + 1 - (intOf i).toNat)
  case atStart => exact ⟨Below.refl _ _, 0, Nat.zero_le _, rfl, ordd_one _ _⟩
  case round =>
    obtain ⟨hbr, j, hj, rfl, hall⟩ := hrel
    by_cases hlt : j + 1 < l.length
    · obtain ⟨s, hc, hp⟩ := hl.at j (by omega)
      obtain ⟨t, hc', hp'⟩ := hl.at (j + 1) hlt
      have hlt' : ((j : Int) + 1 < (l.length : Int)) := by omega
      have hjj : (j : Int) + 1 - 1 = (j : Int) := by omega
      have ht1 : ((j : Int) + 1).toNat = j + 1 := by omega
      have h00 : (0 : Int) ≤ (j : Int) + 1 := by omega
      have hw1 : IntKind.i64.wrap ((j : Int) + 1 - 1) = (j : Int) := by rw [hjj]; exact IntWalk.i64_in _ (by omega)
      have hjl : j < l.length := by omega
      cases hv : setGt l[j] l[j + 1]
      · have HN := Lib.hid (ordd_no j hlt hv)
        go_wp2_with fail
        refine wp_region_later hbr (by kernel_rfl) (by kernel_rfl) ?_
        repeat (go_big_quiet_step ((go_at_call 121; exact Calls.later_of (setGt_c _ _ _ _ _))))
        refine wpQuiet_nil ?_
        intro w2 hb2
        rw [hv]
        go_wp2_with fail
        go_ret
        exact ⟨by rw [HN.out]; rfl, hb2⟩
      · have HN := Lib.hid (ordd_go j hlt hall.out hv)
        go_wp2_with fail
        refine wp_region_later hbr (by kernel_rfl) (by kernel_rfl) ?_
        repeat (go_big_quiet_step ((go_at_call 121; exact Calls.later_of (setGt_c _ _ _ _ _))))
        refine wpQuiet_nil ?_
        intro w2 hb2
        rw [hv]
        go_wp2_with fail
        clear hjj ht1 h00 hw1
        go_roundw
        case rel => exact ⟨hb2, j + 1, by omega, by go_num, HN.out⟩
        case measure => simp [intOf]; omega
    · have HN := Lib.hid (ordd_end j hlt hall.out)
      have hlt' : ¬ ((j : Int) + 1 < (l.length : Int)) := by omega
      go_wp2_with fail
      go_ret
      exact ⟨by rw [HN.out]; rfl, hbr⟩

end Go.Proofs.YtnpddjmjdpgohaaGreatDoor

namespace Go.WW
open Go.RowKit

theorem setCell_blk {w : World} {b o : Nat} {c : Array Value} {t : TypeId} (v : Value) (h : w.heap[b]? = some (.cells c t)) : (w.setCell ⟨b, o, none⟩ v).heap[b]? = some (.cells (c.setIfInBounds o v) t) := by
  simp [World.setCell, Array.getElem?_modify, h]

theorem setCells_blk {b : Nat} {t : TypeId} : ∀ (l : List Value) (o : Nat) (c : Array Value) (w : World), w.heap[b]? = some (.cells c t) →
    (w.setCells b o l).heap[b]? = some (.cells ((l.zipIdx o).foldl (fun c x => c.setIfInBounds x.2 x.1) c) t)
  | [], _, _, _, h => h
  | v :: l, o, c, w, h => by
    rw [World.setCells]
    exact setCells_blk l (o + 1) _ _ (setCell_blk v h)

theorem setCells_other {b k : Nat} (hk : k ≠ b) : ∀ (l : List Value) (o : Nat) (w : World), (w.setCells b o l).heap[k]? = w.heap[k]?
  | [], _, _ => rfl
  | v :: l, o, w => by
    rw [World.setCells, setCells_other hk l (o + 1)]
    exact Below.heap_setCell w _ v k hk

theorem setCells_below {b B : Nat} (hB : B ≤ b) : ∀ (l : List Value) (o : Nat) (w : World), Below B w (w.setCells b o l)
  | [], _, w => Below.refl _ _
  | v :: l, o, w => by
    rw [World.setCells]
    exact ((Below.refl B w).setCell (p := ⟨b, o, none⟩) hB v).trans (setCells_below hB l (o + 1) _)

theorem setCells_size {b : Nat} : ∀ (l : List Value) (o : Nat) (w : World), (w.setCells b o l).heap.size = w.heap.size
  | [], _, w => rfl
  | v :: l, o, w => by
    rw [World.setCells, setCells_size l (o + 1)]
    simp [World.setCell]

theorem foldl_set_mid (post : List Value) : ∀ (pre l m : List Value), l.length = m.length →
    ((m.zipIdx pre.length).foldl (fun (c : Array Value) x => c.setIfInBounds x.2 x.1) (pre ++ l ++ post).toArray) = (pre ++ m ++ post).toArray
  | _, [], [], _ => by simp
  | pre, x :: l, y :: m, h => by
    have ih := foldl_set_mid post (pre ++ [y]) l m (by simpa using h)
    simp only [List.zipIdx_cons, List.foldl_cons]
    have e : (pre ++ x :: l ++ post).toArray.setIfInBounds pre.length y = ((pre ++ [y]) ++ l ++ post).toArray := by simp
    rw [e]
    simpa using ih

def splice (c : Array Value) (o : Nat) (cs : Array Value) : Array Value := (c.toList.take o ++ cs.toList ++ c.toList.drop (o + cs.size)).toArray
theorem splice_whole {c cs : Array Value} (h : c.size = cs.size) : splice c 0 cs = cs := by
  have : c.toList.drop (0 + cs.size) = [] := by rw [List.drop_eq_nil_iff]; simp [h]
  unfold splice; rw [this]; simp
theorem splice_size {c : Array Value} {o : Nat} {cs : Array Value} (h : o + cs.size ≤ c.size) : (splice c o cs).size = c.size := by simp [splice]; omega

theorem putRow_blk {w : World} {b o : Nat} {c cs : Array Value} {t : TypeId} (h : w.heap[b]? = some (.cells c t)) (ho : o + cs.size ≤ c.size) : (putRow w b o cs).heap[b]? = some (.cells (splice c o cs) t) := by
  unfold putRow
  rw [setCells_blk cs.toList o c w h]
  have := foldl_set_mid (c.toList.drop (o + cs.size)) (c.toList.take o) ((c.toList.drop o).take cs.size) cs.toList (by simp; omega)
  have e : c.toList.take o ++ (c.toList.drop o).take cs.size ++ c.toList.drop (o + cs.size) = c.toList := by
    rw [List.append_assoc, ← List.drop_drop, List.take_append_drop, List.take_append_drop]
  have ho' : (c.toList.take o).length = o := by simp; omega
  rw [e, ho'] at this
  rw [show c.toList.toArray = c by simp] at this
  rw [this]
  rfl
theorem putRow_other {w : World} {b o k : Nat} {cs : Array Value} (h : k ≠ b) : (putRow w b o cs).heap[k]? = w.heap[k]? := setCells_other h _ _ _
theorem putRow_size (w : World) (b o : Nat) (cs : Array Value) : (putRow w b o cs).heap.size = w.heap.size := setCells_size _ _ _
theorem Below.putRow {B b o : Nat} {W w : World} {cs : Array Value} (h : Below B W w) (hB : B ≤ b) : Below B W (Go.WW.putRow w b o cs) := h.trans (setCells_below hB _ _ _)

theorem canPut_blk {w : World} {b o n : Nat} (h : canPut w b o n = true) : ∃ c t, w.heap[b]? = some (.cells c t) ∧ o + n ≤ c.size := by
  unfold canPut at h
  split at h
  · rename_i c t f hb
    simp only [Bool.and_eq_true, decide_eq_true_eq] at h
    obtain ⟨h1, rfl⟩ := h
    exact ⟨c, t, hb, h1⟩
  · cases h

theorem row?_putRow_whole {w : World} {b n : Nat} {cs : Array Value} (hn : cs.size = n) (hc : canPut w b 0 n = true) : row? (putRow w b 0 cs) b 0 n = some cs := by
  subst hn
  obtain ⟨c, t, hb, hs⟩ := canPut_blk hc
  unfold row?
  rw [putRow_blk hb hs]
  have hs' : 0 + cs.size ≤ (splice c 0 cs).size := by rw [splice_size hs]; exact hs
  show (if 0 + cs.size ≤ (splice c 0 cs).size then _ else _) = _
  rw [if_pos hs']
  simp [splice]
theorem cell?_putRow_whole {w : World} {b j : Nat} {cs : Array Value} (hc : canPut w b 0 cs.size = true) (hj : j < cs.size) : (putRow w b 0 cs).cell? ⟨b, j, none⟩ = cs[j]? := by
  have := row?_cell (row?_putRow_whole rfl hc) j hj
  simpa using this
theorem frozen?_putRow_whole {w : World} {b j : Nat} {cs : Array Value} (hc : canPut w b 0 cs.size = true) : (putRow w b 0 cs).frozen? ⟨b, j, none⟩ = false := by
  obtain ⟨c, t, hb, hs⟩ := canPut_blk hc
  exact frozen_of_row _ b j _ t (putRow_blk hb hs)
theorem row?_putRow_other {w : World} {b o k o' n : Nat} {cs : Array Value} (h : k ≠ b) : row? (putRow w b o cs) k o' n = row? w k o' n := row?_of_block (putRow_other h) o' n
theorem cell?_putRow_other {w : World} {b o k o' : Nat} {cs : Array Value} (h : k ≠ b) : (putRow w b o cs).cell? ⟨k, o', none⟩ = w.cell? ⟨k, o', none⟩ := World.cell?_of_block (a := ⟨k, o', none⟩) (putRow_other h)
theorem frozen?_putRow_other {w : World} {b o k o' : Nat} {cs : Array Value} (h : k ≠ b) : (putRow w b o cs).frozen? ⟨k, o', none⟩ = w.frozen? ⟨k, o', none⟩ := World.frozen?_of_block (a := ⟨k, o', none⟩) (putRow_other h)
theorem canPut_putRow_other {w : World} {b o k o' n : Nat} {cs : Array Value} (h : k ≠ b) : canPut (putRow w b o cs) k o' n = canPut w k o' n := canPut_of_block (putRow_other h) o' n
theorem run_storeCells_put {P : Program} {w : World} {b o : Nat} {cs : Array Value} (hc : canPut w b o cs.size = true) (h1 : allOne cs = true) : (storeCells ⟨b, o, none⟩ cs.toList).run P w = .ok () (putRow w b o cs) := by
  have ht := canPut_there hc
  have h0 := run_storeCells_cells (P := P) b o cs.toList 0 w (fun j hj => (ht j (by simpa using hj)).1) (fun j hj => (ht j (by simpa using hj)).2) (fun u hu => by unfold allOne at h1; rw [Array.all_eq_true'] at h1; exact h1 u (by simpa using hu))
  unfold putRow
  simpa using h0
theorem canPut_of_cells {w : World} {b o n : Nat} {c : Array Value} {t : TypeId} (h : w.heap[b]? = some (.cells c t)) (hn : o + n ≤ c.size) : canPut w b o n = true := by unfold canPut; rw [h]; simp [hn]
theorem row?_of_cells {w : World} {b o n : Nat} {c : Array Value} {t : TypeId} (h : w.heap[b]? = some (.cells c t)) : row? w b o n = subRow c o n := by unfold row? subRow; rw [h]
theorem bput {W w1 : World} (hb : Below W.heap.size W w1) : ∀ b o n, b < W.heap.size → canPut w1 b o n = canPut W b o n := fun b o n h => canPut_of_block (hb.block b h) o n
theorem canPut_drew (w : World) (b o n : Nat) : canPut w.drew b o n = canPut w b o n := rfl
theorem putRow_size' (w : World) (b o : Nat) (cs : Array Value) : (putRow w b o cs).heap.size = w.heap.size := putRow_size w b o cs
attribute [go_sem] row?_putRow_whole cell?_putRow_whole frozen?_putRow_whole row?_putRow_other cell?_putRow_other frozen?_putRow_other canPut_putRow_other run_storeCells_put canPut_drew putRow_size'
end Go.WW
