/- Slices that a call makes itself, row by row; what depends on some blocks alone. -/
import Derived.Test.YthbialpbkpiekaaGreatDoorXA
import Derived.Maps.AppendAt
import Derived.Deep.AppendLies
import Derived.OwnWalk
import Derived.Laws.BytesString
import Derived.RangeFuncOwn
import Derived.Test.YthbialpbkpiekaaGreatDoorXB
namespace Go.WW
open Go.RowKit

/-! ### Rows of k cells, one behind the other -/

def flat (rows : List (Array Value)) : List Value := rows.flatMap (·.toList)
theorem flat_nil : flat [] = [] := rfl
theorem flat_cons (r : Array Value) (rows : List (Array Value)) : flat (r :: rows) = r.toList ++ flat rows := rfl
theorem flat_append (a b : List (Array Value)) : flat (a ++ b) = flat a ++ flat b := by simp [flat]
theorem flat_length {k : Nat} : ∀ {rows : List (Array Value)}, (∀ r ∈ rows, r.size = k) → (flat rows).length = rows.length * k
  | [], _ => by simp [flat]
  | r :: rows, h => by
    rw [flat_cons, List.length_append, flat_length (fun x hx => h x (by simp [hx])), List.length_cons, Nat.succ_mul]
    have := h r (by simp)
    simp [this]; omega
theorem flat_get {k : Nat} : ∀ {rows : List (Array Value)} (_ : ∀ r ∈ rows, r.size = k) (i j : Nat) (hi : i < rows.length) (_ : j < k), (flat rows)[i * k + j]? = rows[i][j]?
  | [], _, i, j, hi, _ => by simp at hi
  | r :: rows, h, 0, j, _, hj => by
    have := h r (by simp)
    rw [flat_cons, Nat.zero_mul, Nat.zero_add, List.getElem?_append_left (by simp; omega)]
    simp
  | r :: rows, h, i + 1, j, hi, hj => by
    have hr := h r (by simp)
    rw [flat_cons, List.getElem?_append_right (by simp [Nat.succ_mul]; omega)]
    have e : (i + 1) * k + j - r.toList.length = i * k + j := by simp [Nat.succ_mul]; omega
    rw [e, flat_get (fun x hx => h x (by simp [hx])) i j (by simpa using hi) hj]
    simp

/-- The slice s of the call's own holds the rows, each of k cells. -/
structure Own (w : World) (base : Nat) (e : TypeId) (k : Nat) (s : Sl) (rows : List (Array Value)) : Prop where
  own : w.ownsRow base e k (.slice s.a rows.length s.cap) rows.length (flat rows)
  size : ∀ r ∈ rows, r.size = k

def Sl.blk (s : Sl) : Option Nat := s.a.map (·.block)
theorem ownBlock_slice (s : Sl) (n : Nat) : Value.ownBlock (.slice s.a n s.cap) = s.blk := by
  unfold Sl.blk Value.ownBlock; cases s.a <;> rfl

theorem Own.nil (w : World) (base : Nat) (e : TypeId) (k : Nat) : Own w base e k ⟨none, 0⟩ [] := ⟨World.ownsRow_nil w base e k, by simp⟩
theorem Own.base {w : World} {base : Nat} {e : TypeId} {k : Nat} {s : Sl} {rows : List (Array Value)} (h : Own w base e k s rows) {g : Nat} (hg : s.blk = some g) : base ≤ g ∧ g < w.heap.size :=
  h.own.lt g (by rw [ownBlock_slice]; exact hg)
theorem Own.kept {w w' : World} {base : Nat} {e : TypeId} {k : Nat} {s : Sl} {rows : List (Array Value)} (h : Own w base e k s rows) (hb : ∀ g, s.blk = some g → w'.heap[g]? = w.heap[g]?) : Own w' base e k s rows := by
  refine ⟨⟨h.own.1, ?_⟩, h.size⟩
  rcases h.own.2 with hn | ⟨g, cap, cur, hv, h1, hg, rest⟩
  · exact .inl hn
  · refine .inr ⟨g, cap, cur, hv, h1, ?_, rest⟩
    have ha : s.a = some ⟨g, 0, none⟩ := by injection hv
    rw [hb g (by simp [Sl.blk, ha])]; exact hg
theorem Own.row {w : World} {base : Nat} {e : TypeId} {k : Nat} {s : Sl} {rows : List (Array Value)} (h : Own w base e k s rows) (i : Nat) (hi : i < rows.length) :
    ∃ g, s.a = some ⟨g, 0, none⟩ ∧ s.blk = some g ∧ row? w g (0 + i * k) k = some rows[i] := by
  rcases h.own.2 with ⟨_, hn⟩ | ⟨g, cap, cur, hv, h1, hg, hle, _, hsz, htake⟩
  · omega
  · have ha : s.a = some ⟨g, 0, none⟩ := by injection hv
    refine ⟨g, ha, by simp [Sl.blk, ha], ?_⟩
    unfold row?
    rw [hg, Nat.zero_add]
    have h2 : i * k + k ≤ rows.length * k := by rw [← Nat.succ_mul]; exact Nat.mul_le_mul_right _ hi
    have h3 : rows.length * k ≤ cur.size := by rw [hsz]; exact Nat.mul_le_mul_right _ hle
    show (if i * k + k ≤ cur.size then _ else _) = _
    rw [if_pos (by omega)]
    congr 1
    have hrs := h.size rows[i] (List.getElem_mem hi)
    apply Array.ext_getElem?
    intro j
    by_cases hj : j < k
    · rw [Array.getElem?_extract]
      have e1 : j < min (i * k + k) cur.size - i * k := by omega
      rw [if_pos e1, ← flat_get h.size i j hi hj, ← htake, List.getElem?_take, if_pos (by omega)]
      simp
    · rw [Array.getElem?_eq_none (by simp; omega), Array.getElem?_eq_none (by omega)]

/-! ### The source of an append -/

/-- The slice x of m rows. -/
structure SrcRows (w : World) (k : Nat) (A : Option Addr) (rows : List (Array Value)) : Prop where
  size : ∀ r ∈ rows, r.size = k
  one : ∀ r ∈ rows, allOne r = true
  at_ : ∀ i (hi : i < rows.length), ∃ b o, A = some ⟨b, o, none⟩ ∧ row? w b (o + i * k) k = some rows[i]

theorem SrcRows.cells {w : World} {k : Nat} {A : Option Addr} {rows : List (Array Value)} (h : SrcRows w k A rows) (hk : 0 < k) (hn : 0 < rows.length) :
    ∃ b o, A = some ⟨b, o, none⟩ ∧ ∀ j u, (flat rows)[j]? = some u → w.cell? ((⟨b, o, none⟩ : Addr).add j) = some u := by
  obtain ⟨b, o, ha, _⟩ := h.at_ 0 hn
  refine ⟨b, o, ha, fun j u hu => ?_⟩
  have hj : j < rows.length * k := by have := (List.getElem?_eq_some_iff.1 hu).1; rwa [flat_length h.size] at this
  have hi : j / k < rows.length := by rw [Nat.div_lt_iff_lt_mul hk]; exact hj
  have hr : j % k < k := Nat.mod_lt _ hk
  have e : j / k * k + j % k = j := Nat.div_add_mod' j k
  obtain ⟨b', o', ha', hrow⟩ := h.at_ (j / k) hi
  rw [ha] at ha'; cases ha'
  have hg := flat_get h.size (j / k) (j % k) hi hr
  rw [e, hu] at hg
  have hc := row?_cell hrow (j % k) hr
  rw [Nat.add_assoc, e] at hc
  have hadd : (⟨b, o, none⟩ : Addr).add j = ⟨b, o + j, none⟩ := by unfold Addr.add; split <;> simp_all
  rw [hadd, hc, ← hg]

theorem SrcRows.vals {w : World} {k : Nat} {A : Option Addr} {rows : List (Array Value)} (h : SrcRows w k A rows) : ∀ u ∈ flat rows, u.oneCell' = true := by
  intro u hu
  obtain ⟨r, hr, hur⟩ := List.mem_flatMap.1 hu
  have := h.one r hr
  unfold allOne at this
  rw [Array.all_eq_true'] at this
  exact this u (by simpa using hur)

/-- A new block with one row. -/
theorem SrcRows.new (w : World) (cs : Array Value) (t : TypeId) (k : Nat) (hs : cs.size = k) (h1 : allOne cs = true) : SrcRows (w.alloc (.cells cs t)) k (some ⟨w.heap.size, 0, none⟩) [cs] :=
  ⟨by simpa using hs, by simpa using h1, fun i hi => ⟨_, _, rfl, by
    obtain rfl : i = 0 := by simp at hi; exact hi
    rw [row?_alloc_at rfl, Nat.zero_add, Nat.zero_mul, subRow_whole hs]; rfl⟩⟩

/-- What is asked of an element's type. -/
structure ElemOk (P : Program) (t e : TypeId) (k bytes : Nat) : Prop where
  und : P.underlying t = some (.slice e)
  info : ∃ i z, P.info? e = some i ∧ i.zero = some z ∧ i.size = k ∧ i.bytes = bytes ∧ z.cells.size = k
  pos : 0 < k

def elemB (x : Option (Option Nat × Nat × Nat)) (k bytes : Nat) : Bool := match x with | some (some a, b, c) => a == k && b == k && c == bytes && decide (0 < k) | _ => false
theorem ElemOk.of {P : Program} {t e : TypeId} {k bytes : Nat} (hu : P.underlying t = some (.slice e)) (h : elemB ((P.info? e).map fun i => (i.zero.map (·.cells.size), i.size, i.bytes)) k bytes = true) : ElemOk P t e k bytes := by
  unfold elemB at h
  cases hi : P.info? e with
  | none => rw [hi] at h; cases h
  | some i =>
    rw [hi] at h
    simp only [Option.map_some] at h
    cases hz : i.zero with
    | none => rw [hz] at h; cases h
    | some z =>
      rw [hz] at h
      simp only [Option.map_some, Bool.and_eq_true, beq_iff_eq, decide_eq_true_eq] at h
      exact ⟨hu, ⟨i, z, hi, hz, h.1.1.2, h.1.2, h.1.1.1⟩, h.2⟩

theorem run_append_nil {P : Program} {t ty e : TypeId} {k bytes : Nat} (he : ElemOk P t e k bytes) (w : World) {base : Nat} {s : Sl} {rows : List (Array Value)} (h : Own w base e k s rows) (c : Nat) :
    (Builtin.append_ #[t, t] ty #[.slice s.a rows.length s.cap, .slice none 0 c]).run P w = .ok (.slice s.a rows.length s.cap) w := by
  obtain ⟨i, z, hi, hz, h1, h2, h3⟩ := he.info
  rcases h.own.2 with ⟨hv, hn⟩ | ⟨g, cap, cur, hv, _, _, hnc, _⟩
  · rw [hv]; simp [Builtin.append_, run_underlying he.und, sizeOf, typeInfo, hi, Builtin.lenOf, Builtin.firstCells]
  · rw [hv]; simp [Builtin.append_, run_underlying he.und, sizeOf, typeInfo, hi, Builtin.lenOf, Builtin.firstCells, hnc, storeCells]

theorem run_append_rows {P : Program} {t ty e : TypeId} {k bytes : Nat} (he : ElemOk P t e k bytes) (w : World) {base : Nat} {s : Sl} {rows : List (Array Value)} (h : Own w base e k s rows) {A : Option Addr} {news : List (Array Value)} (c : Nat)
    (hs : SrcRows w k A news) (hlen : (rows.length + news.length) * (bytes + 1) ≤ 140737488355328) (hbase : base ≤ w.heap.size) :
    ∃ s' w', (Builtin.append_ #[t, t] ty #[.slice s.a rows.length s.cap, .slice A news.length c]).run P w = .ok (.slice s'.a (rows.length + news.length) s'.cap) w' ∧ Own w' base e k s' (rows ++ news) ∧ w.grownBy w' s.blk ∧ (s'.blk = s.blk ∨ s'.blk = some w.heap.size) := by
  have hl1 : rows.length + news.length ≤ maxLen := by
    have : rows.length + news.length ≤ (rows.length + news.length) * (bytes + 1) := Nat.le_mul_of_pos_right _ (by omega)
    unfold maxLen; omega
  have hl2 : (rows.length + news.length) * bytes ≤ 140737488355328 := Nat.le_trans (Nat.mul_le_mul_left _ (by omega)) hlen
  have main : ∀ b o, A = some ⟨b, o, none⟩ → (∀ j u, (flat news)[j]? = some u → w.cell? ((⟨b, o, none⟩ : Addr).add j) = some u) →
      ∃ s' w', (Builtin.append_ #[t, t] ty #[.slice s.a rows.length s.cap, .slice A news.length c]).run P w = .ok (.slice s'.a (rows.length + news.length) s'.cap) w' ∧ Own w' base e k s' (rows ++ news) ∧ w.grownBy w' s.blk ∧ (s'.blk = s.blk ∨ s'.blk = some w.heap.size) := by
    intro b o hA hcells
    obtain ⟨i, z, hi, hz, h1, h2, h3⟩ := he.info
    obtain ⟨v', w', hrun, hown, hg, _, hb⟩ := run_append_own_at (P := P) w base t ty e i z k bytes he.und hi hz h1 h2 h3 he.pos (.slice s.a rows.length s.cap) rows.length (flat rows) h.own ⟨b, o, none⟩ news.length c (flat news) (flat_length hs.size) hcells hs.vals hl1 hl2 hbase
    rw [ownBlock_slice] at hg hb
    have hform : ∃ s' : Sl, v' = .slice s'.a (rows.length + news.length) s'.cap := by
      rcases hown.2 with ⟨hv, hn⟩ | ⟨g, cap, cur, hv, _⟩
      · exact ⟨⟨none, 0⟩, by rw [hv, hn]⟩
      · exact ⟨⟨some ⟨g, 0, none⟩, cap⟩, hv⟩
    obtain ⟨s', rfl⟩ := hform
    rw [ownBlock_slice] at hb
    refine ⟨s', w', by rw [hA]; exact hrun, ⟨by rw [List.length_append, flat_append]; exact hown, fun r hr => ?_⟩, hg, hb⟩
    rcases List.mem_append.1 hr with hr | hr
    · exact h.size r hr
    · exact hs.size r hr
  rcases Nat.eq_zero_or_pos news.length with hn | hn
  · obtain rfl : news = [] := List.eq_nil_of_length_eq_zero hn
    cases A with
    | none =>
      refine ⟨s, w, ?_, by simpa using h, World.grownBy.refl w _, .inl rfl⟩
      exact run_append_nil he w h c
    | some a =>
      obtain ⟨i, z, hi, hz, h1, h2, h3⟩ := he.info
      obtain ⟨v', w', hrun, hown, hg, _, hb⟩ := run_append_own_at (P := P) w base t ty e i z k bytes he.und hi hz h1 h2 h3 he.pos (.slice s.a rows.length s.cap) rows.length (flat rows) h.own a 0 c [] (by simp) (by simp) (by simp) hl1 hl2 hbase
      rw [ownBlock_slice] at hg hb
      have hform : ∃ s' : Sl, v' = .slice s'.a (rows.length + 0) s'.cap := by
        rcases hown.2 with ⟨hv, hn⟩ | ⟨g, cap, cur, hv, _⟩
        · exact ⟨⟨none, 0⟩, by rw [hv, hn]⟩
        · exact ⟨⟨some ⟨g, 0, none⟩, cap⟩, hv⟩
      obtain ⟨s', rfl⟩ := hform
      rw [ownBlock_slice] at hb
      exact ⟨s', w', hrun, ⟨by simpa using hown, by simpa using h.size⟩, hg, hb⟩
  · obtain ⟨b, o, hA, hc⟩ := hs.cells he.pos hn
    exact main b o hA hc

theorem wp_append_rows {P : Program} {o : Oper} {a : Act} {w : World} {K : Act → World → Prop} {Q : Exit → Act → World → Prop} (x y : Operand) (t : TypeId) (ho : o.op = .call { callee := .builtin .append, args := #[x, y], argTypes := #[t, t] })
    {e : TypeId} {k bytes : Nat} (he : ElemOk P t e k bytes) {base : Nat} {s : Sl} {rows : List (Array Value)} (hx : a.eval x = .slice s.a rows.length s.cap) (h : Own w base e k s rows) {A : Option Addr} {news : List (Array Value)} {m c : Nat}
    (hy : a.eval y = .slice A m c) (hm : m = news.length) (hs : SrcRows w k A news) (hlen : (rows.length + news.length) * (bytes + 1) ≤ 140737488355328) (hbase : base ≤ w.heap.size)
    (hK : ∀ (s' : Sl) w', Own w' base e k s' (rows ++ news) → w.grownBy w' s.blk → (s'.blk = s.blk ∨ s'.blk = some w.heap.size) → K (a.put o.dst (.slice s'.a (rows.length + news.length) s'.cap)) w') : o.wp P a w K Q := by
  subst hm
  obtain ⟨s', w', hrun, h2, h3, h4⟩ := run_append_rows (ty := o.type) he w h c hs hlen hbase
  unfold Oper.wp execOp
  simp only [ho, resolve, invoke, builtin, Sem.run_bind, Sem.run_pure, Result.andThen_ok, List.map_toArray, List.map_cons, List.map_nil, hx, hy, hrun]
  exact hK s' w' h2 h3 h4

theorem wpList_append_rows {P : Program} {ops : Array Oper} {rest : List Oper} {o : Oper} {a : Act} {w : World} {Q : Exit → Act → World → Prop} (hgd : o.guard = none) (x y : Operand) (t : TypeId) (ho : o.op = .call { callee := .builtin .append, args := #[x, y], argTypes := #[t, t] })
    {e : TypeId} {k bytes : Nat} (he : ElemOk P t e k bytes) {base : Nat} {s : Sl} {rows : List (Array Value)} (hx : a.eval x = .slice s.a rows.length s.cap) (h : Own w base e k s rows) {A : Option Addr} {news : List (Array Value)} {m c : Nat}
    (hy : a.eval y = .slice A m c) (hm : m = news.length) (hs : SrcRows w k A news) (hlen : (rows.length + news.length) * (bytes + 1) ≤ 140737488355328) (hbase : base ≤ w.heap.size)
    (hK : ∀ (s' : Sl) w', Own w' base e k s' (rows ++ news) → w.grownBy w' s.blk → (s'.blk = s.blk ∨ s'.blk = some w.heap.size) → wpList P ops Q rest (a.put o.dst (.slice s'.a (rows.length + news.length) s'.cap)) w') : wpList P ops Q (o :: rest) a w :=
  wpList_plain hgd fun _ hK' => wp_append_rows x y t ho he hx h hy hm hs hlen hbase fun s' w' h2 h3 h4 => hK' _ _ (hK s' w' h2 h3 h4)

/-! ### What depends on some blocks alone -/

/-- Φ holds in every world that agrees with w at the blocks S. -/
def Dep (w : World) (S : Nat → Prop) (Φ : World → Prop) : Prop := ∀ w' : World, (∀ k, S k → w'.heap[k]? = w.heap[k]?) → Φ w'
theorem Dep.out {w : World} {S : Nat → Prop} {Φ : World → Prop} (h : Dep w S Φ) : Φ w := h w fun _ _ => rfl
theorem Dep.to {w w1 : World} {S S1 : Nat → Prop} {Φ : World → Prop} (h : Dep w S Φ) (hw : ∀ k, S k → w1.heap[k]? = w.heap[k]?) (hS : ∀ k, S k → S1 k) : Dep w1 S1 Φ :=
  fun w' hw' => h w' fun k hk => (hw' k (hS k hk)).trans (hw k hk)
/-- The blocks made since. -/
def fresh (base : Nat) (w : World) : Nat → Prop := fun k => base ≤ k ∧ k < w.heap.size
/-- .. but one. -/
def freshBut (base : Nat) (w : World) (g : Option Nat) : Nat → Prop := fun k => base ≤ k ∧ k < w.heap.size ∧ some k ≠ g
end Go.WW
/- Stores of whole structs into a world of which only some blocks are known. -/
namespace Go.WW
open Go.RowKit

theorem setCell_blk {w : World} {b o : Nat} {c : Array Value} {t : TypeId} (v : Value) (h : w.heap[b]? = some (.cells c t)) : (w.setCell ⟨b, o, none⟩ v).heap[b]? = some (.cells (c.setIfInBounds o v) t) := by
  simp [World.setCell, Array.getElem?_modify, h]

theorem setCells_blk {b : Nat} {t : TypeId} : ∀ (l : List Value) (o : Nat) (c : Array Value) (w : World), w.heap[b]? = some (.cells c t) →
    (w.setCells b o l).heap[b]? = some (.cells ((l.zipIdx o).foldl (fun c x => c.setIfInBounds x.2 x.1) c) t)
  | [], _, _, _, h => h
  | v :: l, o, c, w, h => by
    rw [World.setCells]
    exact setCells_blk l (o + 1) _ _ (setCell_blk v h)

theorem setCells_other {b k : Nat} (hk : k ≠ b) : ∀ (l : List Value) (o : Nat) (w : World), (w.setCells b o l).heap[k]? = w.heap[k]?
  | [], _, _ => rfl
  | v :: l, o, w => by
    rw [World.setCells, setCells_other hk l (o + 1)]
    exact Below.heap_setCell w _ v k hk

theorem setCells_below {b B : Nat} (hB : B ≤ b) : ∀ (l : List Value) (o : Nat) (w : World), Below B w (w.setCells b o l)
  | [], _, w => Below.refl _ _
  | v :: l, o, w => by
    rw [World.setCells]
    exact ((Below.refl B w).setCell (p := ⟨b, o, none⟩) hB v).trans (setCells_below hB l (o + 1) _)

theorem setCells_size {b : Nat} : ∀ (l : List Value) (o : Nat) (w : World), (w.setCells b o l).heap.size = w.heap.size
  | [], _, w => rfl
  | v :: l, o, w => by
    rw [World.setCells, setCells_size l (o + 1)]
    simp [World.setCell]

theorem foldl_set_mid (post : List Value) : ∀ (pre l m : List Value), l.length = m.length →
    ((m.zipIdx pre.length).foldl (fun (c : Array Value) x => c.setIfInBounds x.2 x.1) (pre ++ l ++ post).toArray) = (pre ++ m ++ post).toArray
  | _, [], [], _ => by simp
  | pre, x :: l, y :: m, h => by
    have ih := foldl_set_mid post (pre ++ [y]) l m (by simpa using h)
    simp only [List.zipIdx_cons, List.foldl_cons]
    have e : (pre ++ x :: l ++ post).toArray.setIfInBounds pre.length y = ((pre ++ [y]) ++ l ++ post).toArray := by simp
    rw [e]
    simpa using ih

/-- The cells cs laid over c from o on. -/
def splice (c : Array Value) (o : Nat) (cs : Array Value) : Array Value := (c.toList.take o ++ cs.toList ++ c.toList.drop (o + cs.size)).toArray
theorem splice_whole {c cs : Array Value} (h : c.size = cs.size) : splice c 0 cs = cs := by
  have : c.toList.drop (0 + cs.size) = [] := by rw [List.drop_eq_nil_iff]; simp [h]
  unfold splice; rw [this]; simp
theorem splice_size {c : Array Value} {o : Nat} {cs : Array Value} (h : o + cs.size ≤ c.size) : (splice c o cs).size = c.size := by simp [splice]; omega

theorem putRow_blk {w : World} {b o : Nat} {c cs : Array Value} {t : TypeId} (h : w.heap[b]? = some (.cells c t)) (ho : o + cs.size ≤ c.size) : (putRow w b o cs).heap[b]? = some (.cells (splice c o cs) t) := by
  unfold putRow
  rw [setCells_blk cs.toList o c w h]
  have := foldl_set_mid (c.toList.drop (o + cs.size)) (c.toList.take o) ((c.toList.drop o).take cs.size) cs.toList (by simp; omega)
  have e : c.toList.take o ++ (c.toList.drop o).take cs.size ++ c.toList.drop (o + cs.size) = c.toList := by
    rw [List.append_assoc, ← List.drop_drop, List.take_append_drop, List.take_append_drop]
  have ho' : (c.toList.take o).length = o := by simp; omega
  rw [e, ho'] at this
  rw [show c.toList.toArray = c by simp] at this
  rw [this]
  rfl
theorem putRow_other {w : World} {b o k : Nat} {cs : Array Value} (h : k ≠ b) : (putRow w b o cs).heap[k]? = w.heap[k]? := setCells_other h _ _ _
theorem putRow_size (w : World) (b o : Nat) (cs : Array Value) : (putRow w b o cs).heap.size = w.heap.size := setCells_size _ _ _
theorem Below.putRow {B b o : Nat} {W w : World} {cs : Array Value} (h : Below B W w) (hB : B ≤ b) : Below B W (Go.WW.putRow w b o cs) := h.trans (setCells_below hB _ _ _)

theorem canPut_blk {w : World} {b o n : Nat} (h : canPut w b o n = true) : ∃ c t, w.heap[b]? = some (.cells c t) ∧ o + n ≤ c.size := by
  unfold canPut at h
  split at h
  · rename_i c t f hb
    simp only [Bool.and_eq_true, decide_eq_true_eq] at h
    obtain ⟨h1, rfl⟩ := h
    exact ⟨c, t, hb, h1⟩
  · cases h

theorem row?_putRow_whole {w : World} {b n : Nat} {cs : Array Value} (hn : cs.size = n) (hc : canPut w b 0 n = true) : row? (putRow w b 0 cs) b 0 n = some cs := by
  subst hn
  obtain ⟨c, t, hb, hs⟩ := canPut_blk hc
  unfold row?
  rw [putRow_blk hb hs]
  have hs' : 0 + cs.size ≤ (splice c 0 cs).size := by rw [splice_size hs]; exact hs
  show (if 0 + cs.size ≤ (splice c 0 cs).size then _ else _) = _
  rw [if_pos hs']
  simp [splice]
theorem cell?_putRow_whole {w : World} {b j : Nat} {cs : Array Value} (hc : canPut w b 0 cs.size = true) (hj : j < cs.size) : (putRow w b 0 cs).cell? ⟨b, j, none⟩ = cs[j]? := by
  have := row?_cell (row?_putRow_whole rfl hc) j hj
  simpa using this
theorem frozen?_putRow_whole {w : World} {b j : Nat} {cs : Array Value} (hc : canPut w b 0 cs.size = true) : (putRow w b 0 cs).frozen? ⟨b, j, none⟩ = false := by
  obtain ⟨c, t, hb, hs⟩ := canPut_blk hc
  exact frozen_of_row _ b j _ t (putRow_blk hb hs)
theorem row?_putRow_other {w : World} {b o k o' n : Nat} {cs : Array Value} (h : k ≠ b) : row? (putRow w b o cs) k o' n = row? w k o' n := row?_of_block (putRow_other h) o' n
theorem cell?_putRow_other {w : World} {b o k o' : Nat} {cs : Array Value} (h : k ≠ b) : (putRow w b o cs).cell? ⟨k, o', none⟩ = w.cell? ⟨k, o', none⟩ := World.cell?_of_block (a := ⟨k, o', none⟩) (putRow_other h)
theorem frozen?_putRow_other {w : World} {b o k o' : Nat} {cs : Array Value} (h : k ≠ b) : (putRow w b o cs).frozen? ⟨k, o', none⟩ = w.frozen? ⟨k, o', none⟩ := World.frozen?_of_block (a := ⟨k, o', none⟩) (putRow_other h)
theorem canPut_putRow_other {w : World} {b o k o' n : Nat} {cs : Array Value} (h : k ≠ b) : canPut (putRow w b o cs) k o' n = canPut w k o' n := canPut_of_block (putRow_other h) o' n
theorem run_storeCells_put {P : Program} {w : World} {b o : Nat} {cs : Array Value} (hc : canPut w b o cs.size = true) (h1 : allOne cs = true) : (storeCells ⟨b, o, none⟩ cs.toList).run P w = .ok () (putRow w b o cs) := by
  have ht := canPut_there hc
  have h0 := run_storeCells_cells (P := P) b o cs.toList 0 w (fun j hj => (ht j (by simpa using hj)).1) (fun j hj => (ht j (by simpa using hj)).2) (fun u hu => by unfold allOne at h1; rw [Array.all_eq_true'] at h1; exact h1 u (by simpa using hu))
  unfold putRow
  simpa using h0
theorem canPut_of_cells {w : World} {b o n : Nat} {c : Array Value} {t : TypeId} (h : w.heap[b]? = some (.cells c t)) (hn : o + n ≤ c.size) : canPut w b o n = true := by unfold canPut; rw [h]; simp [hn]
theorem row?_of_cells {w : World} {b o n : Nat} {c : Array Value} {t : TypeId} (h : w.heap[b]? = some (.cells c t)) : row? w b o n = subRow c o n := by unfold row? subRow; rw [h]
theorem bput {W w1 : World} (hb : Below W.heap.size W w1) : ∀ b o n, b < W.heap.size → canPut w1 b o n = canPut W b o n := fun b o n h => canPut_of_block (hb.block b h) o n
theorem canPut_drew (w : World) (b o n : Nat) : canPut w.drew b o n = canPut w b o n := rfl
theorem putRow_size' (w : World) (b o : Nat) (cs : Array Value) : (putRow w b o cs).heap.size = w.heap.size := putRow_size w b o cs
attribute [go_sem] row?_putRow_whole cell?_putRow_whole frozen?_putRow_whole row?_putRow_other cell?_putRow_other frozen?_putRow_other canPut_putRow_other run_storeCells_put canPut_drew putRow_size'
end Go.WW
/- string(bytes); append where the length is spelled otherwise. -/
namespace Go.WW
open Go.RowKit
theorem foldl_push (l : List UInt8) : ∀ (acc : List UInt8), ((l.map fun c => ((c.toNat : Nat) : Int)).foldl (fun (r : ByteArray) n => r.push (UInt8.ofNat n.toNat)) ⟨acc.toArray⟩) = ⟨(acc ++ l).toArray⟩ := by
  induction l with
  | nil => intro acc; simp
  | cons c l ih =>
    intro acc
    rw [List.map_cons, List.foldl_cons]
    have e : (ByteArray.mk acc.toArray).push (UInt8.ofNat ((c.toNat : Nat) : Int).toNat) = ⟨(acc ++ [c]).toArray⟩ := by
      simp [ByteArray.push]
    rw [e, ih]
    simp
theorem run_bytes_text {P : Program} (w : World) (src dst e : TypeId) (hs : P.underlying src = some (.slice e)) (he : P.underlying e = some (.int .u8)) (hd : P.underlying dst = some .string) (b o cap : Nat) (l : List UInt8)
    (h : ∀ i (hi : i < l.length), w.cell? ⟨b, o + i, none⟩ = some (.int .u8 l[i].toNat)) : (convert src dst (.slice (some ⟨b, o, none⟩) l.length cap)).run P w = .ok (.string ⟨l.toArray⟩) w := by
  rw [run_convert_bytes_string w src dst e _ _ _ hs he hd]
  have hl : (loadCells ⟨b, o, none⟩ l.length).run P w = .ok ((l.map fun c => ((c.toNat : Nat) : Int)).map (Value.int .u8)).toArray w := by
    have := run_loadCells_list (P := P) w ⟨b, o, none⟩ ((l.map fun c => ((c.toNat : Nat) : Int)).map (Value.int .u8)) (fun j v hv => by
      have hj : j < l.length := by have := (List.getElem?_eq_some_iff.1 hv).1; simpa using this
      have hadd : (⟨b, o, none⟩ : Addr).add j = ⟨b, o + j, none⟩ := by unfold Addr.add; split <;> simp_all
      rw [hadd, h j hj]
      simp [hj] at hv
      rw [← hv])
    simpa using this
  rw [run_bytesToString w _ _ _ _ hl]
  have e0 : ByteArray.empty = ⟨([] : List UInt8).toArray⟩ := rfl
  rw [e0, foldl_push, List.nil_append]
theorem wpList_append_n {P : Program} {ops : Array Oper} {rest : List Oper} {o : Oper} {a : Act} {w : World} {Q : Exit → Act → World → Prop} (hgd : o.guard = none) (x y : Operand) (t : TypeId) (ho : o.op = .call { callee := .builtin .append, args := #[x, y], argTypes := #[t, t] })
    {e : TypeId} {k bytes : Nat} (he : ElemOk P t e k bytes) {base : Nat} {s : Sl} {n : Nat} {rows : List (Array Value)} (hx : a.eval x = .slice s.a n s.cap) (hn : n = rows.length) (h : Own w base e k s rows) {A : Option Addr} {news : List (Array Value)} {m c : Nat}
    (hy : a.eval y = .slice A m c) (hm : m = news.length) (hs : SrcRows w k A news) (hlen : (rows.length + news.length) * (bytes + 1) ≤ 140737488355328) (hbase : base ≤ w.heap.size)
    (hK : ∀ (s' : Sl) w', Own w' base e k s' (rows ++ news) → w.grownBy w' s.blk → (s'.blk = s.blk ∨ s'.blk = some w.heap.size) → wpList P ops Q rest (a.put o.dst (.slice s'.a (n + m) s'.cap)) w') : wpList P ops Q (o :: rest) a w := by
  subst hn hm
  exact wpList_append_rows hgd x y t ho he hx h hy rfl hs hlen hbase hK
end Go.WW
/- From lists in memory to rows, and back. -/
namespace Go.WW
open Go.RowKit
theorem RowsAt.src {w : World} {k n : Nat} {a : Option Addr} {R : Nat → Array Value → Prop} (h : RowsAt w k a n R) (hR : ∀ i cs, R i cs → cs.size = k ∧ allOne cs = true) :
    ∃ rows, rows.length = n ∧ SrcRows w k a rows ∧ ∀ i (hi : i < rows.length), R i rows[i] := by
  rcases Nat.eq_zero_or_pos n with h0 | h0
  · subst h0; exact ⟨[], rfl, ⟨by simp, by simp, fun i hi => by simp at hi⟩, fun i hi => by simp at hi⟩
  · obtain ⟨b, o, _, ha, _⟩ := h.2 0 h0
    have key : ∀ i, i < n → ∃ cs, row? w b (o + i * k) k = some cs ∧ R i cs := fun i hi => by
      obtain ⟨b', o', cs, ha', hr, hc⟩ := h.2 i hi
      rw [ha] at ha'; cases ha'
      exact ⟨cs, hr, hc⟩
    have hg : ∀ i (hi : i < ((List.range n).map fun i => (row? w b (o + i * k) k).getD #[]).length), ∃ cs, ((List.range n).map fun i => (row? w b (o + i * k) k).getD #[])[i] = cs ∧ row? w b (o + i * k) k = some cs ∧ R i cs := fun i hi => by
      have hi' : i < n := by simpa using hi
      obtain ⟨cs, h1, h2⟩ := key i hi'
      exact ⟨cs, by simp [h1], h1, h2⟩
    refine ⟨(List.range n).map fun i => (row? w b (o + i * k) k).getD #[], by simp, ⟨fun r hr => ?_, fun r hr => ?_, fun i hi => ?_⟩, fun i hi => ?_⟩
    · obtain ⟨i, hi, rfl⟩ := List.mem_iff_getElem.1 hr
      obtain ⟨cs, e, _, h2⟩ := hg i hi
      rw [e]; exact (hR i cs h2).1
    · obtain ⟨i, hi, rfl⟩ := List.mem_iff_getElem.1 hr
      obtain ⟨cs, e, _, h2⟩ := hg i hi
      rw [e]; exact (hR i cs h2).2
    · obtain ⟨cs, e, h1, _⟩ := hg i hi
      exact ⟨b, o, ha, by rw [e]; exact h1⟩
    · obtain ⟨cs, e, _, h2⟩ := hg i hi
      rw [e]; exact h2
theorem RowsAt.of_own {w : World} {base k n : Nat} {e : TypeId} {s : Sl} {rows : List (Array Value)} {R : Nat → Array Value → Prop} (h : Own w base e k s rows) (hl : rows.length = n) (hn : n ≤ lim) (hR : ∀ i (hi : i < rows.length), R i rows[i]) : RowsAt w k s.a n R := by
  subst hl
  refine ⟨hn, fun i hi => ?_⟩
  obtain ⟨g, ha, _, hrow⟩ := h.row i hi
  exact ⟨g, 0, rows[i], ha, hrow, hR i hi⟩
theorem row?_one {w : World} {b o : Nat} {v : Value} (h : w.cell? ⟨b, o, none⟩ = some v) : row? w b o 1 = some #[v] := by
  have hlt := World.block_lt_of_cell? w _ h
  unfold row?
  cases hb : w.heap[b]? with
  | none => exfalso; simp [World.cell?, hb] at h
  | some ob =>
    cases ob with
    | cells c t f =>
      rw [cell_of_row w b o c t f hb] at h
      have ho := (Array.getElem?_eq_some_iff.1 h).1
      show (if o + 1 ≤ c.size then _ else _) = _
      rw [if_pos (by omega)]
      congr 1
      apply Array.ext_getElem?
      intro j
      rw [Array.getElem?_extract]
      by_cases hj : j = 0
      · subst hj; rw [if_pos (by omega)]; simpa using h
      · rw [if_neg (by omega)]; simp; omega
    | _ => exfalso; simp [World.cell?, hb] at h
theorem CellsAt.src {w : World} {n : Nat} {a : Option Addr} {R : Nat → Value → Prop} (h : CellsAt w a n R) (hR : ∀ i v, R i v → v.oneCell' = true) :
    ∃ rows, rows.length = n ∧ SrcRows w 1 a rows ∧ ∀ i (hi : i < rows.length), ∃ v, rows[i] = #[v] ∧ R i v := by
  have h' : RowsAt w 1 a n (fun i cs => ∃ v, cs = #[v] ∧ R i v) := ⟨h.1, fun i hi => by
    obtain ⟨b, o, v, ha, hc, hr⟩ := h.2 i hi
    exact ⟨b, o, #[v], ha, by rw [Nat.mul_one]; exact row?_one hc, v, rfl, hr⟩⟩
  obtain ⟨rows, h1, h2, h3⟩ := h'.src (fun i cs ⟨v, e, hr⟩ => by subst e; exact ⟨rfl, by simp [allOne, hR i v hr]⟩)
  exact ⟨rows, h1, h2, h3⟩
theorem CellsAt.of_own {w : World} {base n : Nat} {e : TypeId} {s : Sl} {rows : List (Array Value)} {R : Nat → Value → Prop} (h : Own w base e 1 s rows) (hl : rows.length = n) (hn : n ≤ lim) (hR : ∀ i (hi : i < rows.length), ∃ v, rows[i] = #[v] ∧ R i v) : CellsAt w s.a n R := by
  subst hl
  refine ⟨hn, fun i hi => ?_⟩
  obtain ⟨g, ha, _, hrow⟩ := h.row i hi
  obtain ⟨v, e, hr⟩ := hR i hi
  refine ⟨g, 0, v, ha, ?_, hr⟩
  have := row?_cell hrow 0 (by omega)
  rw [e, Nat.mul_one] at this
  simpa using this
theorem wpList_append_w {P : Program} {ops : Array Oper} {rest : List Oper} {o : Oper} {a : Act} {w : World} {Q : Exit → Act → World → Prop} (hw : Region.wanted o (yielded ops a.tmps) = true) (x y : Operand) (t : TypeId) (ho : o.op = .call { callee := .builtin .append, args := #[x, y], argTypes := #[t, t] })
    {e : TypeId} {k bytes : Nat} (he : ElemOk P t e k bytes) {base : Nat} {s : Sl} {n : Nat} {rows : List (Array Value)} (hx : a.eval x = .slice s.a n s.cap) (hn : n = rows.length) (h : Own w base e k s rows) {A : Option Addr} {news : List (Array Value)} {m c : Nat}
    (hy : a.eval y = .slice A m c) (hm : m = news.length) (hs : SrcRows w k A news) (hlen : (rows.length + news.length) * (bytes + 1) ≤ 140737488355328) (hbase : base ≤ w.heap.size)
    (hK : ∀ (s' : Sl) w', Own w' base e k s' (rows ++ news) → w.grownBy w' s.blk → (s'.blk = s.blk ∨ s'.blk = some w.heap.size) → wpList P ops Q rest (a.put o.dst (.slice s'.a (n + m) s'.cap)) w') : wpList P ops Q (o :: rest) a w := by
  subst hn hm
  refine wpList_step fun K hK' => ?_
  rw [if_pos hw]
  exact wp_append_rows x y t ho he hx h hy rfl hs hlen hbase fun s' w' h2 h3 h4 => hK' _ _ (hK s' w' h2 h3 h4)
/-- A slice just made, with one row. -/
theorem Own.one (w : World) (cs : Array Value) (t : TypeId) (k : Nat) (hs : cs.size = k) : Own (w.alloc (.cells cs t)) w.heap.size t k ⟨some ⟨w.heap.size, 0, none⟩, 1⟩ [cs] := by
  refine ⟨⟨by simp [flat, hs], .inr ⟨w.heap.size, 1, cs, rfl, Nat.le_refl _, World.alloc_heap_new w _, Nat.le_refl _, by unfold maxLen; omega, by simp [hs], ?_⟩⟩, by simpa using hs⟩
  simp only [flat, List.flatMap_cons, List.flatMap_nil, List.append_nil, List.length_singleton, Nat.one_mul]
  exact List.take_of_length_le (by simp [hs])
theorem prinR_ok {w : World} {l : List Prin} (i : Nat) (cs : Array Value) (h : ∃ p s, l[i]? = some p ∧ cs = prinC s p ∧ PrinAt w s p) : cs.size = 2 ∧ allOne cs = true := by
  obtain ⟨p, s, _, rfl, _⟩ := h; exact ⟨prinC_size s p, prinC_one s p⟩
end Go.WW
/- Contracts of the reference's database: without, insert. -/
namespace Go.WW
open Go.RowKit
/-- Entries with the headers of their slices. -/
abbrev EE := ERaw × Entry
def encX (x : EE) : Array Value := entC x.1 x.2
/-- The rows of entries in memory. -/
def RowsX (w : World) (a : Option Addr) (X : List EE) : Prop := RowsAt w 17 a X.length fun i cs => ∃ x, X[i]? = some x ∧ cs = encX x
theorem RowsX.later {w w' : World} (h : Below w.heap.size w w') {a : Option Addr} {X : List EE} (x : RowsX w a X) : RowsX w' a X := RowsAt.later h (fun _ _ y => y) x
theorem RowsX.at {w : World} {b o : Nat} {X : List EE} (x : RowsX w (some ⟨b, o, none⟩) X) (i : Nat) (h : i < X.length) : row? w b (o + i * 17) 17 = some (entC X[i].1 X[i].2) := by
  obtain ⟨b', o', cs, ha, hr, y, hy, rfl⟩ := x.2 i h
  cases ha
  rw [List.getElem?_eq_getElem h] at hy; cases hy
  exact hr
theorem RowsX.ents {w : World} {a : Option Addr} {X : List EE} (x : RowsX w a X) (h : ∀ y ∈ X, EntAt w y.1 y.2) : EntsAt w a (X.map (·.2)) := by
  refine ⟨by simpa using x.1, fun i hi => ?_⟩
  have hi' : i < X.length := by simpa using hi
  obtain ⟨b, o, cs, ha, hr, y, hy, rfl⟩ := x.2 i hi'
  exact ⟨b, o, _, ha, hr, y.2, y.1, by simp [hy], rfl, h y (List.mem_of_getElem? hy)⟩
theorem RowsX.of_own {w : World} {base : Nat} {e : TypeId} {s : Sl} {X : List EE} (h : Own w base e 17 s (X.map encX)) (hn : X.length ≤ lim) : RowsX w s.a X :=
  RowsAt.of_own h (by simp) hn (fun i hi => by simp at hi; exact ⟨X[i], List.getElem?_eq_getElem hi, by simp⟩)
theorem own_on {W w w' : World} {E : TypeId} {k : Nat} {s : Sl} {rows : List (Array Value)} (h : Own w W.heap.size E k s rows) (hb : Below W.heap.size W w) (hg : w.grownBy w' s.blk) : Below W.heap.size W w' := hb.grown hg hb.size (fun _ e => (h.base e).1)
theorem take_erase {α : Type} (X : List α) (i k : Nat) (h : k < X.length) : (X.take (k + 1)).eraseIdx i = if k = i then (X.take k).eraseIdx i else (X.take k).eraseIdx i ++ [X[k]] := by
  rw [List.take_succ_eq_append_getElem h]
  have hl : (X.take k).length = k := by simp; omega
  rcases Nat.lt_trichotomy i k with h1 | h1 | h1
  · rw [if_neg (by omega), List.eraseIdx_append_of_lt_length (by omega)]
  · subst h1
    have e : (X.take i).eraseIdx i = X.take i := List.eraseIdx_of_length_le (by omega)
    rw [if_pos rfl, List.eraseIdx_append_of_length_le (by omega), e, hl, Nat.sub_self]; simp
  · rw [if_neg (by omega), List.eraseIdx_of_length_le (by simp; omega), List.eraseIdx_of_length_le (by omega)]
/-- A list of entries is returned, in a block of its own. -/
def OutX (X : List EE) (w : World) (e : Ending) (w' : World) : Prop := ∃ s : Sl, e = .returned (.slice s.a X.length s.cap) ∧ Below w.heap.size w w' ∧ Dep w' (fresh w.heap.size w') (fun y => RowsX y s.a X)
end Go.WW
namespace Go.Proofs.YthbialpbkpiekaaGreatDoor
open Go.RowKit Go.WW
/-- The making of a slice, kept whole from the walk's rules. -/
def sliceBuild (T : TypeId) (n : Nat) (parts : Array (Nat × Value)) : Sem Next := do pure (.value (← Instr.buildSlice T n parts))
theorem execOp_bsEnt (ρ : Operand → Value) (dst : Option Tmp) (x : Operand) (ty : TypeId) (pos : String) (after : Array Edge) (guard : Option (Nat × Bool)) : execOp ρ { dst, op := .buildSlice 152 1 #[(0, x)], type := ty, pos, after, guard } = sliceBuild 152 1 #[(0, ρ x)] := by simp [execOp, sliceBuild]
theorem bsEnt (w : World) (r : ERaw) (d : Entry) : (sliceBuild 152 1 #[(0, .agg (entC r d))]).run Tryz.prog w = .ok (.value (.slice (some ⟨w.heap.size, 0, none⟩) 1 1)) (w.alloc (.cells (entC r d) 44)) := by kernel_rfl
theorem execOp_bsPol (ρ : Operand → Value) (dst : Option Tmp) (x : Operand) (ty : TypeId) (pos : String) (after : Array Edge) (guard : Option (Nat × Bool)) : execOp ρ { dst, op := .buildSlice 148 1 #[(0, x)], type := ty, pos, after, guard } = sliceBuild 148 1 #[(0, ρ x)] := by simp [execOp, sliceBuild]
theorem bsPol (w : World) (p : Policy) : (sliceBuild 148 1 #[(0, .agg (polC p))]).run Tryz.prog w = .ok (.value (.slice (some ⟨w.heap.size, 0, none⟩) 1 1)) (w.alloc (.cells (polC p) 46)) := by kernel_rfl
attribute [go_sem] bsEnt bsPol
attribute [go_sem ↓] execOp_bsEnt execOp_bsPol
theorem elemEnt : ElemOk Tryz.prog 152 44 17 248 := ElemOk.of Tryz.underlying152 (by kernel_rfl)
theorem encX_src (w : World) (x : EE) : SrcRows (w.alloc (.cells (entC x.1 x.2) 44)) 17 (some ⟨w.heap.size, 0, none⟩) [encX x] := SrcRows.new _ (entC x.1 x.2) _ _ (by simp [go_sem]) (by simp [go_sem])
end Go.Proofs.YthbialpbkpiekaaGreatDoor
/- The sort of few entries: plain; rows of a block that are written. -/
namespace Go.WW
open Go.RowKit
section
variable {α β : Type} {c : β → β → Int} {k : α → β}
/-- The inner loop's state: x = the element on its way, at place j; those behind it up to place i are greater. -/
def Mid (c : β → β → Int) (k : α → β) (Y : List α) (i j : Nat) : Prop := ∃ A x B C, Y = A ++ x :: (B ++ C) ∧ A.length = j ∧ A.length + B.length = i ∧ Sorted c k (A ++ B) ∧ ∀ b ∈ B, c (k x) (k b) < 0
theorem mid_start {Y : List α} {i : Nat} (h : Sorted c k (Y.take i)) (hi : i < Y.length) : Mid c k Y i i :=
  ⟨Y.take i, Y[i], [], Y.drop (i + 1), by rw [List.nil_append, ← List.drop_eq_getElem_cons hi, List.take_append_drop], by simp; omega, by simp; omega, by simpa using h, by simp⟩
theorem mid_zero {Y : List α} {i : Nat} (h : Mid c k Y i 0) : Sorted c k (Y.take (i + 1)) := by
  obtain ⟨A, x, B, C, rfl, hA, hi, hs, hb⟩ := h
  have : A = [] := List.eq_nil_of_length_eq_zero hA
  subst this
  simp only [List.length_nil, Nat.zero_add, List.nil_append] at *
  subst hi
  rw [List.take_succ_cons, List.take_left']
  · exact List.pairwise_cons.2 ⟨hb, hs⟩
  · rfl
theorem mid_step {Y : List α} {i j : Nat} (h : Mid c k Y i (j + 1)) (h1 : j + 1 < Y.length) (hc : c (k Y[j + 1]) (k Y[j]) < 0) : Mid c k ((Y.set (j + 1) Y[j]).set j Y[j + 1]) i j := by
  obtain ⟨A, x, B, C, rfl, hA, hi, hs, hb⟩ := h
  obtain ⟨A', y, rfl⟩ : ∃ A' y, A = A' ++ [y] := ⟨A.dropLast, A.getLast (by intro e; subst e; simp at hA), (List.dropLast_concat_getLast _).symm⟩
  have hA' : A'.length = j := by simpa using hA
  subst hA'
  have e1 : (A' ++ [y] ++ x :: (B ++ C))[A'.length + 1] = x := by simp
  have e0 : (A' ++ [y] ++ x :: (B ++ C))[A'.length] = y := by simp
  rw [e1, e0] at hc
  refine ⟨A', x, y :: B, C, ?_, rfl, by simp at hi ⊢; omega, by simpa using hs, fun b hbm => ?_⟩
  · rw [e1, e0]
    simp
  · rcases List.mem_cons.1 hbm with rfl | hbm
    · exact hc
    · exact hb b hbm
theorem mid_stop (ht : TotalCmp c) {Y : List α} {i j : Nat} (h : Mid c k Y i (j + 1)) (h1 : j + 1 < Y.length) (hd : (Y.map k).Nodup) (hc : ¬ c (k Y[j + 1]) (k Y[j]) < 0) : Sorted c k (Y.take (i + 1)) := by
  obtain ⟨A, x, B, C, rfl, hA, hi, hs, hb⟩ := h
  obtain ⟨A', y, rfl⟩ : ∃ A' y, A = A' ++ [y] := ⟨A.dropLast, A.getLast (by intro e; subst e; simp at hA), (List.dropLast_concat_getLast _).symm⟩
  have hA' : A'.length = j := by simpa using hA
  subst hA'
  have e1 : (A' ++ [y] ++ x :: (B ++ C))[A'.length + 1] = x := by simp
  have e0 : (A' ++ [y] ++ x :: (B ++ C))[A'.length] = y := by simp
  rw [e1, e0] at hc
  have hne : k x ≠ k y := by
    intro e
    rw [List.map_append, List.map_append, List.map_cons, List.nodup_append] at hd
    exact hd.2.2 (k y) (by simp) (k x) (by simp) e.symm
  have hyx : c (k y) (k x) < 0 := by
    have h0 : c (k y) (k x) ≠ 0 := fun e0 => hne ((ht.zero _ _).1 e0).symm
    have := ht.anti (k y) (k x)
    omega
  have et : (A' ++ [y] ++ x :: (B ++ C)).take (i + 1) = (A' ++ [y]) ++ x :: B := by
    have e : A' ++ [y] ++ x :: (B ++ C) = ((A' ++ [y]) ++ x :: B) ++ C := by simp
    rw [e, List.take_left']
    simp at hi ⊢; omega
  rw [et]
  have hs' := List.pairwise_append.1 hs
  have hs1 := List.pairwise_append.1 hs'.1
  refine List.pairwise_append.2 ⟨hs'.1, List.pairwise_cons.2 ⟨hb, hs'.2.1⟩, fun a ha z hz => ?_⟩
  rcases List.mem_cons.1 hz with rfl | hz
  · rcases List.mem_append.1 ha with ha | ha
    · exact ht.trans _ _ _ (hs1.2.2 a ha y (by simp)) hyx
    · simp at ha; subst ha; exact hyx
  · exact hs'.2.2 a ha z hz
theorem swap_perm {Y : List α} {j : Nat} (h1 : j + 1 < Y.length) : ((Y.set (j + 1) Y[j]).set j Y[j + 1]).Perm Y := by
  have e : Y = Y.take j ++ Y[j] :: Y[j + 1] :: Y.drop (j + 2) := by
    conv => lhs; rw [← List.take_append_drop j Y, List.drop_eq_getElem_cons (by omega), List.drop_eq_getElem_cons h1]
  have hl : (Y.take j).length = j := by simp; omega
  generalize Y[j] = y at *
  generalize Y[j + 1] = x at *
  generalize Y.take j = A at *
  generalize Y.drop (j + 2) = C at *
  subst e
  subst hl
  simp
  exact (List.Perm.refl A).append (List.Perm.swap _ _ _)
end
/-! ### Rows of a block, written -/
theorem splice_same {c cs : Array Value} {o n : Nat} (hn : cs.size = n) (h : o + n ≤ c.size) : subRow (splice c o cs) o n = some cs := by
  subst hn
  unfold subRow
  rw [if_pos (by rw [splice_size h]; exact h)]
  congr 1
  apply Array.ext_getElem?
  intro i
  simp only [splice, Array.getElem?_extract, List.getElem?_toArray, List.getElem?_append, List.length_append, List.length_take, Array.length_toList, List.getElem?_take, List.getElem?_drop]
  have : min o c.size = o := by omega
  by_cases hi : i < cs.size
  · simp [this, hi, show ¬ o + i < o by omega, show o + i < o + cs.size by omega]
  · rw [if_neg (by omega), Array.getElem?_eq_none (by omega)]
theorem splice_apart {c cs : Array Value} {o o' n : Nat} (h : o + cs.size ≤ c.size) (ha : o' + n ≤ o ∨ o + cs.size ≤ o') : subRow (splice c o cs) o' n = subRow c o' n := by
  unfold subRow
  rw [splice_size h]
  split
  · congr 1
    apply Array.ext_getElem?
    intro i
    simp only [splice, Array.getElem?_extract, List.getElem?_toArray, List.getElem?_append, List.length_append, List.length_take, Array.length_toList, List.getElem?_take, List.getElem?_drop, Array.getElem?_toList]
    have hm : min o c.size = o := by omega
    have hsz : (List.take o c.toList ++ cs.toList ++ List.drop (o + cs.size) c.toList).length = c.size := by simp; omega
    by_cases hi : i < n
    · have h1 : i < min (o' + n) c.size - o' := by omega
      rcases ha with ha | ha
      · simp [hm, show o' + i < o by omega, show o' + i < o + cs.size by omega, show o + (cs.size + (c.size - (o + cs.size))) = c.size by omega]
      · simp [hm, show ¬ o' + i < o + cs.size by omega, show o + cs.size + (o' + i - (o + cs.size)) = o' + i by omega, show o + (cs.size + (c.size - (o + cs.size))) = c.size by omega]
    · rw [if_neg (by omega), if_neg (by omega)]
  · rfl
/-- A block of cells that may be written. -/
def Open (w : World) (g n : Nat) : Prop := ∃ c t, w.heap[g]? = some (.cells c t) ∧ n ≤ c.size
theorem Open.put {w : World} {g n o : Nat} {cs : Array Value} (h : Open w g n) (ho : o + cs.size ≤ n) : Open (putRow w g o cs) g n := by
  obtain ⟨c, t, hc, hn⟩ := h
  exact ⟨_, t, putRow_blk hc (by omega), by rw [splice_size (by omega)]; exact hn⟩
theorem Open.can {w : World} {g n o m : Nat} (h : Open w g n) (ho : o + m ≤ n) : canPut w g o m = true := by
  obtain ⟨c, t, hc, hn⟩ := h
  exact canPut_of_cells hc (by omega)
theorem Open.at {w w' : World} {g n : Nat} (h : Open w g n) (e : w'.heap[g]? = w.heap[g]?) : Open w' g n := by
  obtain ⟨c, t, hc, hn⟩ := h
  exact ⟨c, t, e.trans hc, hn⟩
theorem row_set {w : World} {g n o o' m : Nat} {cs : Array Value} (h : Open w g n) (ho : o + cs.size ≤ n) (ha : o' + m ≤ o ∨ o + cs.size ≤ o') : row? (putRow w g o cs) g o' m = row? w g o' m := by
  obtain ⟨c, t, hc, hn⟩ := h
  rw [row?_of_cells (putRow_blk hc (by omega)), row?_of_cells hc, splice_apart (by omega) ha]
theorem row_put {w : World} {g n o m : Nat} {cs : Array Value} (h : Open w g n) (hm : cs.size = m) (ho : o + m ≤ n) : row? (putRow w g o cs) g o m = some cs := by
  obtain ⟨c, t, hc, hn⟩ := h
  rw [row?_of_cells (putRow_blk hc (by omega)), splice_same hm (by omega)]
theorem encX_size (x : EE) : (encX x).size = 17 := rfl
theorem RowsX.put {w : World} {g : Nat} {Y : List EE} (h : RowsX w (some ⟨g, 0, none⟩) Y) (ho : Open w g (Y.length * 17)) {i : Nat} (hi : i < Y.length) (x : EE) : RowsX (putRow w g (0 + i * 17) (encX x)) (some ⟨g, 0, none⟩) (Y.set i x) := by
  refine ⟨by simpa using h.1, fun j hj => ?_⟩
  have hj' : j < Y.length := by simpa using hj
  have hs := encX_size x
  by_cases e : j = i
  · subst e
    exact ⟨g, 0, _, rfl, row_put ho (encX_size x) (by omega), x, by simp [hj'], rfl⟩
  · obtain ⟨b, o, cs, ha, hr, y, hy, rfl⟩ := h.2 j hj'
    cases ha
    refine ⟨g, 0, _, rfl, (row_set ho (by omega) (by omega)).trans hr, y, by rw [List.getElem?_set_ne (by omega)]; exact hy, rfl⟩
theorem But.put {S : Nat → Prop} {W w : World} {g o : Nat} {cs : Array Value} (h : But S W w) (hg : S g) : But S W (putRow w g o cs) :=
  h.trans ⟨by have := (setCells_below (Nat.le_refl g) cs.toList o w).os; exact this, (setCells_below (Nat.le_refl g) cs.toList o w).tape, (setCells_below (Nat.le_refl g) cs.toList o w).output, by rw [putRow_size]; exact Nat.le_refl _, fun k _ hn => putRow_other (fun e => hn (e ▸ hg))⟩
end Go.WW
/- A drawn region, one of whose operations writes into a block that was there. -/
namespace Go.WW
open Go.RowKit
theorem But.drew {S : Nat → Prop} {a w : World} (h : But S a w) : But S a w.drew := ⟨h.os, h.tape, h.output, h.size, h.block⟩
theorem But.cell {S : Nat → Prop} {w w' : World} (h : But S w w') {b o : Nat} (hb : b < w.heap.size) (hn : ¬ S b) : w'.cell? ⟨b, o, none⟩ = w.cell? ⟨b, o, none⟩ := World.cell?_of_block (a := ⟨b, o, none⟩) (h.block b hb hn)
section
variable {P : Program} {ops : Array Oper} {S : World → Prop} {Q : Act → World → Prop}
/-- The operations that only look, the nil check among them. -/
def looksN (o : Oper) : Bool := looks o || (match o.op with | .nilCheck _ => true | _ => false)
theorem looksN_value {o : Oper} (h : looksN o = true) (ρ : Operand → Value) (w : World) : (∃ v w', (execOp ρ o).run P w = .ok (.value v) w') ∨ ∃ h w', (execOp ρ o).run P w = .halt h w' := by
  cases hl : looks o
  · obtain ⟨dst, op, type, pos, after, guard⟩ := o
    unfold looksN at h
    rw [hl] at h
    cases op <;> simp at h
    case nilCheck x =>
      simp only [execOp]
      split
      · exact .inr ⟨_, _, rfl⟩
      · exact .inr ⟨_, _, rfl⟩
      · exact .inr ⟨_, _, rfl⟩
      · split
        · exact .inr ⟨_, _, rfl⟩
        · simp only [Sem.run_bind]
          cases (program).run P w with
          | halt h w' => exact .inr ⟨h, w', by simp⟩
          | ok p w1 =>
            dsimp only [Result.andThen]
            cases (nilAhead (p.types.size + Made.depth) _ _ _).run P w1 with
            | halt h w' => exact .inr ⟨h, w', by simp⟩
            | ok c w2 =>
              dsimp only [Result.andThen]
              split
              · exact .inr ⟨_, _, rfl⟩
              · exact .inl ⟨_, _, rfl⟩
        · exact .inl ⟨_, _, rfl⟩
      · exact .inl ⟨_, _, rfl⟩
  · exact looks_value hl ρ w
theorem textN_look {o : Oper} {rest : List Oper} {a : Act} {w : World} (hw : Region.wanted o (yielded ops a.tmps) = true) (hs : looksN o = true)
    (h : ∀ K : Act → Prop, (∀ a', wpText P ops looksN S Q rest a' w → K a') → o.quiet P a S K) : wpText P ops looksN S Q (o :: rest) a w := by
  rw [text_cons, if_pos hw, if_pos hs]
  obtain ⟨v, hv, hh⟩ := h _ (fun _ x => x)
  refine ⟨v, fun w' hw' => ?_, hh⟩
  have := hv w' hw'
  unfold Oper.quietAt at this
  rcases looksN_value (P := P) hs a.eval w' with ⟨u, w'', e⟩ | ⟨x, w'', e⟩
  · rw [e] at this ⊢
    obtain ⟨rfl, rfl⟩ := this
    rfl
  · rw [e] at this
    exact this.elim
theorem textN_act {o : Oper} {rest : List Oper} {a : Act} {w : World} (hw : Region.wanted o (yielded ops a.tmps) = true) (hs : looksN o = false)
    (h : ∀ K : Act → World → Prop, (∀ a' w', S w' → wpText P ops looksN S Q rest a' w' → K a' w') → o.wp P a w K never) : wpText P ops looksN S Q (o :: rest) a w := by
  rw [text_cons, if_pos hw, if_neg (by simp [hs])]
  exact h _ (fun _ _ x y => ⟨x, y⟩)
end
/-- A world later than W but for the blocks S. -/
structure LaterB (S : Nat → Prop) (W : World) where
  w : World
  b : But S W w
instance {S : Nat → Prop} {W : World} : Nonempty (LaterB S W) := ⟨⟨W, But.refl _ _⟩⟩
section
variable {S : Nat → Prop} {W : World} (x : LaterB S W) (b o : Nat) (h : b < W.heap.size) (hn : ¬ S b)
include h hn
theorem LaterB.cell : x.w.cell? ⟨b, o, none⟩ = W.cell? ⟨b, o, none⟩ := x.b.cell h hn
theorem LaterB.frozen : x.w.frozen? ⟨b, o, none⟩ = W.frozen? ⟨b, o, none⟩ := by
  have := x.b.block b h hn
  simp [World.frozen?, this]
theorem LaterB.row (n : Nat) : row? x.w b o n = row? W b o n := row?_of_block (x.b.block b h hn) o n
end
attribute [go_sem] LaterB.cell LaterB.frozen LaterB.row
abbrev sinceB (S : Nat → Prop) (w : World) : World → Prop := fun w' => ∃ x : LaterB S w, w' = x.w
theorem wp_region_sinceB {P : Program} {id : Nat} {Q' : Exit → Act → World → Prop} {a : Act} {W w : World} {l : List Oper} (S : Nat → Prop) (hW : But S W w) (hm : P.follows .mixedOrders = true) (hB : textB looksN l.toArray = true)
    (h : wpText P l.toArray looksN (sinceB S W) (fun a' w' => Q' .normal a' w') l a w.drew) : (Code.region id l.toArray true).wp P Q' a w :=
  wp_region_text (sinceB S W) looksN hm hB ⟨⟨w.drew, hW.drew⟩, rfl⟩ h
theorem sinceB_of {S : Nat → Prop} {W w : World} (h : But S W w) : sinceB S W w := ⟨⟨w, h⟩, rfl⟩
theorem wp_region_sinceN {P : Program} {id : Nat} {Q' : Exit → Act → World → Prop} {a : Act} {W w : World} {l : List Oper} (hW : Below W.heap.size W w) (hm : P.follows .mixedOrders = true) (hB : textB looksN l.toArray = true)
    (h : ∀ w1, Below W.heap.size W w1 → wpText P l.toArray looksN (since W) (fun a' w' => Q' .normal a' w') l a w1) : (Code.region id l.toArray true).wp P Q' a w :=
  wp_region_text (since W) looksN hm hB ⟨⟨w.drew, hW.drew⟩, rfl⟩ (h _ hW.drew)
/-- One block. -/
def one (p : Nat) : Nat → Prop := fun k => k = p
theorem not_one {p k : Nat} (h : k ≠ p) : ¬ one p k := h
end Go.WW
/- A region that draws its order, walked in the order of the text, in which some operations read what others write: these are ordered. Turned from Text.lt. -/
namespace Go.WW.T3
open Go.RowKit Go.WW
section
variable {P : Program} {ops : Array Oper} {S : World → Prop} {kd : Oper → Nat} {Q : Act → World → Prop}
/-- What a look yields: in every world of the class (kind 0), or in this one (kind 1). -/
def LV (P : Program) (S : World → Prop) (kd : Oper → Nat) (w : World) (o : Oper) (ρ : Operand → Value) (v : Value) : Prop :=
  if kd o = 0 then ∀ w', S w' → (execOp ρ o).run P w' = .ok (.value v) w' else (execOp ρ o).run P w = .ok (.value v) w
theorem LV.here {P : Program} {S : World → Prop} {kd : Oper → Nat} {w : World} {o : Oper} {ρ : Operand → Value} {v : Value} (h : LV P S kd w o ρ v) (hS : S w) : (execOp ρ o).run P w = .ok (.value v) w := by
  unfold LV at h
  split at h
  · exact h w hS
  · exact h
theorem LV.any {P : Program} {S : World → Prop} {kd : Oper → Nat} {w w1 : World} {o : Oper} {ρ : Operand → Value} {v : Value} (h : LV P S kd w o ρ v) (h0 : kd o = 0) : LV P S kd w1 o ρ v := by
  unfold LV at *
  rw [if_pos h0] at *
  exact h
/-- The walk in the order of the text. -/
def wpText (P : Program) (ops : Array Oper) (kd : Oper → Nat) (S : World → Prop) (Q : Act → World → Prop) : List Oper → Act → World → Prop
  | [], a, w => Q a w
  | o :: rest, a, w =>
    if Region.wanted o (yielded ops a.tmps) then
      if kd o < 2 then ∃ v, LV P S kd w o a.eval v ∧ wpText P ops kd S Q rest (a.put o.dst v) w
      else o.wp P a w (fun a' w' => S w' ∧ wpText P ops kd S Q rest a' w') never
    else wpText P ops kd S Q rest (a.put o.dst undef) w

theorem text_cons (o : Oper) (rest : List Oper) (a : Act) (w : World) : wpText P ops kd S Q (o :: rest) a w =
    (if Region.wanted o (yielded ops a.tmps) then
      if kd o < 2 then ∃ v, LV P S kd w o a.eval v ∧ wpText P ops kd S Q rest (a.put o.dst v) w
      else o.wp P a w (fun a' w' => S w' ∧ wpText P ops kd S Q rest a' w') never
    else wpText P ops kd S Q rest (a.put o.dst undef) w) := rfl

theorem text_mono {l : List Oper} {Q' : Act → World → Prop} (h : ∀ a w, Q a w → Q' a w) : ∀ {a w}, wpText P ops kd S Q l a w → wpText P ops kd S Q' l a w := by
  induction l with
  | nil => exact fun hh => h _ _ hh
  | cons o l ih =>
    intro a w hh
    rw [text_cons] at *
    split
    · rename_i hw
      simp only [hw, if_true] at hh
      split
      · rename_i hs
        simp only [hs, if_true] at hh
        obtain ⟨v, h1, h2⟩ := hh
        exact ⟨v, h1, ih h2⟩
      · rename_i hs
        simp only [hs] at hh
        exact Oper.wp_mono (fun a' w' ⟨x, y⟩ => ⟨x, ih y⟩) hh
    · rename_i hw
      simp only [hw] at hh
      exact ih hh

theorem cons_mono {o : Oper} {M M' : List Oper} {a : Act} {w : World} (hS : S w) (h : ∀ a' w', S w' → wpText P ops kd S Q M a' w' → wpText P ops kd S Q M' a' w')
    (hh : wpText P ops kd S Q (o :: M) a w) : wpText P ops kd S Q (o :: M') a w := by
  rw [text_cons] at *
  split
  · rename_i hw
    simp only [hw, if_true] at hh
    split
    · rename_i hs
      simp only [hs, if_true] at hh
      obtain ⟨v, h1, h2⟩ := hh
      exact ⟨v, h1, h _ _ hS h2⟩
    · rename_i hs
      simp only [hs] at hh
      exact Oper.wp_mono (fun a' w' ⟨x, y⟩ => ⟨x, h _ _ x y⟩) hh
  · rename_i hw
    simp only [hw] at hh
    exact h _ _ hS hh

/-- Two operations that may change places. -/
def pairOk (kd : Oper → Nat) (x o : Oper) : Bool := decide (kd x = 0) || decide (kd o = 0) || (decide (kd x < 2) && decide (kd o < 2))
theorem text_swap {x o : Oper} {L : List Oper} {a : Act} {w : World} (hS : S w) (hx : ∀ cs b, x.op ≠ .select cs b) (ho : ∀ cs b, o.op ≠ .select cs b)
    (hap : x.apart ops o = true) (hst : pairOk kd x o = true) (h : wpText P ops kd S Q (x :: o :: L) a w) : wpText P ops kd S Q (o :: x :: L) a w := by
  obtain ⟨h1, h2, h3⟩ := Oper.apart_spec hap
  have h2' : ∀ d, o.dst = some d → x.dst ≠ some d := fun d hd hxd => h2 d hxd hd
  have wo : ∀ (b : Act) v, Region.wanted o (yielded ops (b.put x.dst v).tmps) = Region.wanted o (yielded ops b.tmps) := fun b v => wanted_put o b x.dst v h1
  have wx : ∀ (b : Act) v, Region.wanted x (yielded ops (b.put o.dst v).tmps) = Region.wanted x (yielded ops b.tmps) := fun b v => wanted_put x b o.dst v h3
  have eo : ∀ (w : World) (b : Act) v u, LV P S kd w o (b.put x.dst v).eval u = LV P S kd w o b.eval u := fun w b v u => by unfold LV; rw [execOp_put o ho b x.dst v h1]
  have ex : ∀ (w : World) (b : Act) v u, LV P S kd w x (b.put o.dst v).eval u = LV P S kd w x b.eval u := fun w b v u => by unfold LV; rw [execOp_put x hx b o.dst v h3]
  have hc : ∀ (b : Act) v u, (b.put x.dst v).put o.dst u = (b.put o.dst u).put x.dst v := fun b v u => Act.put_comm b v u h2
  have hk : (kd x = 0 ∨ kd o = 0) ∨ kd x < 2 ∧ kd o < 2 := by simpa [pairOk] using hst
  rw [text_cons] at h ⊢
  by_cases hwx : Region.wanted x (yielded ops a.tmps) = true
  · rw [if_pos hwx] at h
    by_cases hsx : kd x < 2
    · rw [if_pos hsx] at h
      obtain ⟨v, hv, h⟩ := h
      rw [text_cons, wo] at h
      by_cases hwo : Region.wanted o (yielded ops a.tmps) = true
      · rw [if_pos hwo] at h ⊢
        by_cases hso : kd o < 2
        · rw [if_pos hso] at h ⊢
          obtain ⟨u, hu, h⟩ := h
          rw [eo] at hu
          refine ⟨u, hu, ?_⟩
          rw [text_cons, wx, if_pos hwx, if_pos hsx]
          exact ⟨v, by rw [ex]; exact hv, by rw [← hc]; exact h⟩
        · rw [if_neg hso] at h ⊢
          have h0 : kd x = 0 := by omega
          have h' := wp_form ((wp_put ho h1 h2).1 h)
          refine Oper.wp_mono ?_ h'
          rintro a' w' ⟨⟨u, ds, rfl⟩, hS', h⟩
          refine ⟨hS', ?_⟩
          rw [text_cons, wx, show Region.wanted x (yielded ops ({ a with defers := ds } : Act).tmps) = true from hwx, if_pos rfl, if_pos hsx]
          exact ⟨v, by rw [ex]; exact hv.any h0, h⟩
      · rw [if_neg hwo] at h ⊢
        rw [text_cons, wx, if_pos hwx, if_pos hsx]
        exact ⟨v, by rw [ex]; exact hv, by rw [← hc]; exact h⟩
    · have h0 : kd o = 0 := by omega
      have hso : kd o < 2 := by omega
      rw [if_neg hsx] at h
      have h' := wp_form h
      by_cases hwo : Region.wanted o (yielded ops a.tmps) = true
      · rw [if_pos hwo, if_pos hso]
        have key : ∀ a' w', ((∃ u ds, a' = ({ a with defers := ds } : Act).put x.dst u) ∧ S w' ∧ wpText P ops kd S Q (o :: L) a' w') →
            ∃ v, LV P S kd w o a.eval v ∧ S w' ∧ wpText P ops kd S Q L (a'.put o.dst v) w' := by
          rintro a' w' ⟨⟨u, ds, rfl⟩, hS', hh⟩
          rw [text_cons, wo, show Region.wanted o (yielded ops ({ a with defers := ds } : Act).tmps) = true from hwo, if_pos rfl, if_pos hso] at hh
          obtain ⟨v, hv, hh⟩ := hh
          rw [eo] at hv
          exact ⟨v, hv.any h0, hS', hh⟩
        obtain ⟨a1, w1, h1'⟩ := wp_exists h'
        obtain ⟨v, hv, _⟩ := key _ _ h1'
        refine ⟨v, hv, ?_⟩
        rw [text_cons, wx, if_pos hwx, if_neg hsx, wp_put hx h3 h2']
        refine Oper.wp_mono ?_ h'
        intro a' w' hh
        obtain ⟨v', hv', hS', hh⟩ := key _ _ hh
        have e : v' = v := by
          have := (hv'.here hS).symm.trans (hv.here hS)
          simpa using this
        subst e
        exact ⟨hS', hh⟩
      · rw [if_neg hwo, text_cons, wx, if_pos hwx, if_neg hsx, wp_put hx h3 h2']
        refine Oper.wp_mono ?_ h'
        rintro a' w' ⟨⟨u, ds, rfl⟩, hS', hh⟩
        rw [text_cons, wo, show Region.wanted o (yielded ops ({ a with defers := ds } : Act).tmps) = false from by simpa using hwo, if_neg (by simp)] at hh
        exact ⟨hS', hh⟩
  · rw [if_neg hwx] at h
    rw [text_cons, wo] at h
    by_cases hwo : Region.wanted o (yielded ops a.tmps) = true
    · rw [if_pos hwo] at h ⊢
      by_cases hso : kd o < 2
      · rw [if_pos hso] at h ⊢
        obtain ⟨u, hu, h⟩ := h
        rw [eo] at hu
        refine ⟨u, hu, ?_⟩
        rw [text_cons, wx, if_neg hwx, ← hc]
        exact h
      · rw [if_neg hso] at h ⊢
        have h' := wp_form ((wp_put ho h1 h2).1 h)
        refine Oper.wp_mono ?_ h'
        rintro a' w' ⟨⟨u, ds, rfl⟩, hS', h⟩
        refine ⟨hS', ?_⟩
        rw [text_cons, wx, show Region.wanted x (yielded ops ({ a with defers := ds } : Act).tmps) = false from by simpa using hwx, if_neg (by simp)]
        exact h
    · rw [if_neg hwo] at h ⊢
      rw [text_cons, wx, if_neg hwx, ← hc]
      exact h

/-- .. and so to the front. -/
theorem text_front {o : Oper} {L2 : List Oper} (ho : ∀ cs b, o.op ≠ .select cs b) : ∀ (L1 : List Oper), (∀ x ∈ L1, (∀ cs b, x.op ≠ .select cs b) ∧ x.apart ops o = true ∧ pairOk kd x o = true) →
    ∀ (a : Act) (w : World), S w → wpText P ops kd S Q (L1 ++ o :: L2) a w → wpText P ops kd S Q (o :: (L1 ++ L2)) a w
  | [], _, _, _, _, h => h
  | x :: L1, hall, a, w, hS, h => by
    have hx := hall x (by simp)
    refine text_swap hS hx.1 ho hx.2.1 hx.2.2 ?_
    exact cons_mono hS (fun a' w' hS' hh => text_front ho L1 (fun y hy => hall y (by simp [hy])) a' w' hS' hh) h

abbrev lk (kd : Oper → Nat) : Oper → Bool := fun o => decide (kd o < 2)
/-- What is asked of the region: edges go back; two operations are ordered by an edge or touch none of each other's temporaries; two that act are ordered. -/
def textB (kd : Oper → Nat) (ops : Array Oper) : Bool :=
  let m := effPreds (lk kd) ops
  Region.noSelect ops && (List.range ops.size).all fun j => match ops[j]? with
    | none => true
    | some oj =>
      oj.after.toList.all (fun e => !Region.binds .any e || decide (e.on < j)) &&
      (m.getD j []).all (fun i => oj.after.toList.any fun e => Region.binds .any e && (e.on == i || (m.getD e.on []).contains i)) &&
      (List.range j).all fun i => match ops[i]? with
        | none => true
        | some oi => oj.after.toList.any (fun e => Region.binds .any e && e.on == i) || (oi.apart ops oj && (pairOk kd oi oj || (m.getD j []).contains i))

structure TextOk (kd : Oper → Nat) (ops : Array Oper) (m : Array (List Nat)) : Prop where
  sel : Region.noSelect ops = true
  back : ∀ j oj, ops[j]? = some oj → ∀ e ∈ oj.after, Region.binds .any e = true → e.on < j
  pred : ∀ j oj, ops[j]? = some oj → ∀ i ∈ m.getD j [], ∃ e ∈ oj.after, Region.binds .any e = true ∧ (e.on = i ∨ i ∈ m.getD e.on [])
  pair : ∀ j oj, ops[j]? = some oj → ∀ i, i < j → ∀ oi, ops[i]? = some oi → (∃ e ∈ oj.after, Region.binds .any e = true ∧ e.on = i) ∨ (oi.apart ops oj = true ∧ (pairOk kd oi oj = true ∨ i ∈ m.getD j []))

theorem textB_ok (h : textB kd ops = true) : TextOk kd ops (effPreds (lk kd) ops) := by
  unfold textB at h
  simp only [Bool.and_eq_true, List.all_eq_true, List.mem_range] at h
  obtain ⟨hs, h⟩ := h
  have lt : ∀ {j : Nat} {oj : Oper}, ops[j]? = some oj → j < ops.size := fun hj => (Array.getElem?_eq_some_iff.1 hj).1
  refine ⟨hs, fun j oj hj => ?_, fun j oj hj => ?_, fun j oj hj => ?_⟩
  all_goals
    have hh := h j (lt hj)
    simp only [hj, Bool.and_eq_true, List.all_eq_true, List.mem_range] at hh
    obtain ⟨⟨h1, h2⟩, h3⟩ := hh
  · intro e he hb
    have := h1 e (by simpa using he)
    simpa [hb] using this
  · intro i hi
    have := h2 i hi
    simp only [List.any_eq_true, Bool.and_eq_true, Bool.or_eq_true, beq_iff_eq, List.contains_iff_mem] at this
    obtain ⟨e, he, hb, hor⟩ := this
    exact ⟨e, by simpa using he, hb, hor⟩
  · intro i hi oi ho
    have := h3 i hi
    simp only [ho, Bool.or_eq_true, List.any_eq_true, Bool.and_eq_true, beq_iff_eq, List.contains_iff_mem] at this
    rcases this with ⟨e, he, hb, hor⟩ | ⟨ha, hor⟩
    · exact .inl ⟨e, by simpa using he, hb, hor⟩
    · exact .inr ⟨ha, hor⟩

theorem preds_listed {m : Array (List Nat)} (hok : TextOk kd ops m) {listed : Array Bool}
    (hdown : ∀ k o, ops[k]? = some o → listed.getD k false = true → ∀ e ∈ o.after, Region.binds .any e = true → listed.getD e.on false = true) :
    ∀ (j : Nat) (oj : Oper), ops[j]? = some oj → (∀ e ∈ oj.after, Region.binds .any e = true → listed.getD e.on false = true) → ∀ i ∈ m.getD j [], listed.getD i false = true := by
  intro j
  induction j using Nat.strongRecOn with
  | _ j ih =>
    intro oj hj hall i hi
    obtain ⟨e, he, hb, hor⟩ := hok.pred j oj hj i hi
    rcases hor with rfl | hor
    · exact hall e he hb
    · have hlt := hok.back j oj hj e he hb
      have hjs : j < ops.size := (Array.getElem?_eq_some_iff.1 hj).1
      have hoe : ops[e.on]? = some (ops[e.on]'(by omega)) := by simp
      exact ih e.on hlt _ hoe (hdown _ _ hoe (hall e he hb)) i hor

theorem text_any {m : Array (List Nat)} (hok : TextOk kd ops m) {Q' : Exit → Act → World → Prop} (hQ : ∀ a w, Q a w → Q' .normal a w) :
    ∀ (n : Nat) (L : List Nat) (listed : Array Bool) (a : Act) (w : World), L.length = n → L.Pairwise (· < ·) → listed.size = ops.size → (∀ j, j ∈ L ↔ j < ops.size ∧ listed.getD j true = false) →
      (∀ k o, ops[k]? = some o → listed.getD k false = true → ∀ e ∈ o.after, Region.binds .any e = true → listed.getD e.on false = true) →
      S w → wpText P ops kd S Q (L.filterMap (ops[·]?)) a w → wpAny P .any ops Q' n listed a w := by
  intro n
  induction n with
  | zero =>
    intro L listed a w hn _ hsz hL _ _ h
    have : L = [] := List.eq_nil_of_length_eq_zero hn
    subst this
    refine ⟨?_, hQ _ _ h⟩
    cases hr : Region.ready .any ops listed with
    | nil => rfl
    | cons i r =>
      have hi : i ∈ Region.ready .any ops listed := by rw [hr]; simp
      obtain ⟨h0, o, ho, _⟩ := mem_ready.1 hi
      have := (hL i).2 ⟨(Array.getElem?_eq_some_iff.1 ho).1, h0⟩
      cases this
  | succ n ih =>
    intro L listed a w hn hsort hsz hL hdown hS h
    refine ⟨fun hr => ?_, fun i hi => ?_⟩
    · exfalso
      cases L with
      | nil => simp at hn
      | cons j L =>
        obtain ⟨hj, hjl⟩ := (hL j).1 (by simp)
        have hoj : ops[j]? = some ops[j] := by simp [hj]
        have : j ∈ Region.ready .any ops listed := by
          refine mem_ready.2 ⟨hjl, _, hoj, fun e he hb => ?_⟩
          have hlt := hok.back j _ hoj e he hb
          have hnot : e.on ∉ j :: L := by
            intro hmem
            rcases List.mem_cons.1 hmem with h1 | h1
            · omega
            · have := (List.pairwise_cons.1 hsort).1 _ h1; omega
          have h2 : listed.getD e.on true ≠ false := fun hf => hnot ((hL e.on).2 ⟨by omega, hf⟩)
          have hes : e.on < listed.size := by omega
          simp [hes] at h2 ⊢; exact h2
        rw [hr] at this; cases this
    · obtain ⟨h0, o, ho, hall⟩ := mem_ready.1 hi
      have his : i < ops.size := (Array.getElem?_eq_some_iff.1 ho).1
      have hiL : i ∈ L := (hL i).2 ⟨his, h0⟩
      obtain ⟨L1, L2, rfl⟩ := List.append_of_mem hiL
      have hsort' := List.pairwise_append.1 hsort
      have hlt1 : ∀ x ∈ L1, x < i := fun x hx => hsort'.2.2 x hx i (by simp)
      have hgt2 : ∀ x ∈ L2, i < x := fun x hx => (List.pairwise_cons.1 hsort'.2.1).1 x hx
      rw [List.filterMap_append, List.filterMap_cons_some ho] at h
      have hfront := text_front (P := P) (ops := ops) (S := S) (kd := kd) (Q := Q) (Region.noSelect_spec hok.sel i o · · ho) (L1.filterMap (ops[·]?)) (fun x hx => by
        obtain ⟨k, hk, hox⟩ := List.mem_filterMap.1 hx
        have hkl := ((hL k).1 (by simp [hk])).2
        have hnl : ¬ listed.getD k false = true := fun hf => by rw [getD_true_of_false hf] at hkl; cases hkl
        refine ⟨(Region.noSelect_spec hok.sel k x · · hox), ?_⟩
        rcases hok.pair i o ho k (hlt1 k hk) x hox with ⟨e, he, hb, rfl⟩ | ⟨hap, hor⟩
        · exact absurd (hall e he hb) hnl
        · refine ⟨hap, ?_⟩
          rcases hor with h1 | h1
          · exact h1
          · exact absurd (preds_listed hok hdown i o ho hall k h1) hnl) a w hS h
      have hrest : ∀ a' w', S w' → wpText P ops kd S Q (L1.filterMap (ops[·]?) ++ L2.filterMap (ops[·]?)) a' w' → wpAny P .any ops Q' n (listed.setIfInBounds i true) a' w' := by
        intro a' w' hS' hh
        rw [← List.filterMap_append] at hh
        refine ih (L1 ++ L2) (listed.setIfInBounds i true) a' w' ?_ ?_ (by simpa using hsz) ?_ ?_ hS' hh
        · simp at hn ⊢; omega
        · exact List.pairwise_append.2 ⟨hsort'.1, (List.pairwise_cons.1 hsort'.2.1).2, fun x hx y hy => hsort'.2.2 x hx y (by simp [hy])⟩
        · intro j
          by_cases hji : j = i
          · subst hji
            constructor
            · intro hm
              exfalso
              rcases List.mem_append.1 hm with h1 | h1
              · have := hlt1 _ h1; omega
              · have := hgt2 _ h1; omega
            · rintro ⟨_, hf⟩
              have : j < listed.size := by omega
              simp [this] at hf
          · rw [getD_set_ne true (Ne.symm hji), ← hL j]
            simp [hji]
        · intro k ok hk hkl e he hb
          by_cases hki : k = i
          · subst hki
            rw [ho] at hk; cases hk
            exact getD_set_true (hall e he hb)
          · rw [getD_set_ne false (Ne.symm hki)] at hkl
            exact getD_set_true (hdown k ok hk hkl e he hb)
      unfold wpOp
      simp only [ho]
      rw [text_cons] at hfront
      split
      · rename_i hw
        rw [if_pos hw] at hfront
        refine .inl ?_
        by_cases hs : kd o < 2
        · rw [if_pos hs] at hfront
          obtain ⟨v, hv, hh⟩ := hfront
          unfold Oper.wp
          rw [hv.here hS]
          exact hrest _ _ hS hh
        · rw [if_neg hs] at hfront
          exact wp_mono_Q (Oper.wp_mono (fun a' w' hh => hrest a' w' hh.1 hh.2) hfront)
      · rename_i hw
        rw [if_neg hw] at hfront
        exact hrest _ _ hS hfront

/-- ONE WALK IN THE ORDER OF THE TEXT SERVES EVERY ORDER. -/
theorem wp_region_text {id : Nat} {Q' : Exit → Act → World → Prop} {a : Act} {w : World} {l : List Oper} (S : World → Prop) (kd : Oper → Nat) (hm : P.follows .mixedOrders = true) (hB : textB kd l.toArray = true)
    (hS : S w.drew) (h : wpText P l.toArray kd S (fun a' w' => Q' .normal a' w') l a w.drew) : (Code.region id l.toArray true).wp P Q' a w := by
  refine wp_region_any hm ?_
  have hfm : (List.range l.toArray.size).filterMap (l.toArray[·]?) = l := by
    apply List.ext_getElem?
    intro i
    have : ∀ n, (List.range n).filterMap (fun i => l.toArray[i]?) = l.take n := by
      intro n
      induction n with
      | zero => simp
      | succ n ih =>
        rw [List.range_succ, List.filterMap_append, ih]
        by_cases hn : n < l.length
        · rw [List.take_succ_eq_append_getElem hn]; simp [hn]
        · simp [hn, List.take_of_length_le (show l.length ≤ n by omega), List.take_of_length_le (show l.length ≤ n + 1 by omega)]
    rw [this]; simp
  have := text_any (P := P) (S := S) (Q := fun a' w' => Q' .normal a' w') (textB_ok hB) (Q' := Q') (fun _ _ h => h) l.toArray.size (List.range l.toArray.size) (Array.replicate l.toArray.size false) a w.drew
    (by simp) List.pairwise_lt_range (by simp) (by intro j; simp; intro h; simp [h]) (by intro k o hk hkl; exfalso; rw [Array.getD_eq_getD_getElem?, Array.getElem?_replicate] at hkl; split at hkl <;> simp at hkl) hS (by rw [hfm]; exact h)
  exact this

/-! ### The walk's steps -/
theorem text_nil {a : Act} {w : World} (h : Q a w) : wpText P ops kd S Q [] a w := h
theorem text_skip {o : Oper} {rest : List Oper} {a : Act} {w : World} (hw : Region.wanted o (yielded ops a.tmps) = false) (h : wpText P ops kd S Q rest (a.put o.dst undef) w) : wpText P ops kd S Q (o :: rest) a w := by
  rw [text_cons, if_neg (by simp [hw])]; exact h
/-- The kinds: loads read what the acts write. -/
def kinds (o : Oper) : Nat :=
  match o.op with
  | .load .. => 1
  | _ => if looks o then 0 else 2
theorem kinds_looks {o : Oper} (h : kinds o < 2) : looks o = true := by
  unfold kinds at h
  split at h
  · rename_i h'; unfold looks; rw [h']
  · split at h
    · assumption
    · omega
theorem text_look {o : Oper} {rest : List Oper} {a : Act} {w : World} (hw : Region.wanted o (yielded ops a.tmps) = true) (hs : kinds o = 0)
    (h : ∀ K : Act → Prop, (∀ a', wpText P ops kinds S Q rest a' w → K a') → o.quiet P a S K) : wpText P ops kinds S Q (o :: rest) a w := by
  rw [text_cons, if_pos hw, if_pos (by omega)]
  obtain ⟨v, hv, hh⟩ := h _ (fun _ x => x)
  refine ⟨v, ?_, hh⟩
  unfold LV
  rw [if_pos hs]
  intro w' hw'
  have := hv w' hw'
  unfold Oper.quietAt at this
  rcases looks_value (P := P) (kinds_looks (o := o) (by omega)) a.eval w' with ⟨u, w'', e⟩ | ⟨x, w'', e⟩
  · rw [e] at this ⊢
    obtain ⟨rfl, rfl⟩ := this
    rfl
  · rw [e] at this
    exact this.elim
theorem text_read {o : Oper} {rest : List Oper} {a : Act} {w : World} (hw : Region.wanted o (yielded ops a.tmps) = true) (hs : kinds o = 1)
    (h : ∀ K : Act → World → Prop, (∀ a', wpText P ops kinds S Q rest a' w → K a' w) → o.wp P a w K never) : wpText P ops kinds S Q (o :: rest) a w := by
  rw [text_cons, if_pos hw, if_pos (by omega)]
  have h' := h (fun a' w' => w' = w ∧ wpText P ops kinds S Q rest a' w) (fun _ x => ⟨rfl, x⟩)
  unfold Oper.wp at h'
  rcases looks_value (P := P) (kinds_looks (o := o) (by omega)) a.eval w with ⟨u, w'', e⟩ | ⟨x, w'', e⟩
  · rw [e] at h'
    obtain ⟨rfl, hh⟩ := h'
    refine ⟨u, ?_, hh⟩
    unfold LV
    rw [if_neg (by omega)]
    exact e
  · rw [e] at h'
    cases x <;> simp only [Oper.upon, never] at h'
theorem text_act {o : Oper} {rest : List Oper} {a : Act} {w : World} (hw : Region.wanted o (yielded ops a.tmps) = true) (hs : kinds o = 2)
    (h : ∀ K : Act → World → Prop, (∀ a' w', S w' → wpText P ops kinds S Q rest a' w' → K a' w') → o.wp P a w K never) : wpText P ops kinds S Q (o :: rest) a w := by
  rw [text_cons, if_pos hw, if_neg (by omega)]
  exact h _ (fun _ _ x y => ⟨x, y⟩)
end
theorem wp_region_sinceR {P : Program} {id : Nat} {Q' : Exit → Act → World → Prop} {a : Act} {W w : World} {l : List Oper} (S : Nat → Prop) (hW : But S W w) (hm : P.follows .mixedOrders = true) (hB : textB kinds l.toArray = true)
    (h : wpText P l.toArray kinds (sinceB S W) (fun a' w' => Q' .normal a' w') l a w.drew) : (Code.region id l.toArray true).wp P Q' a w :=
  wp_region_text (sinceB S W) kinds hm hB ⟨⟨w.drew, hW.drew⟩, rfl⟩ h
end Go.WW.T3
