/- Slices that a call makes itself, row by row; what depends on some blocks alone. -/
import Derived.Test.YtpibcnchkndejaaGreatDoorWA
import Derived.Maps.AppendAt
import Derived.Deep.AppendLies
import Derived.RangeFuncOwn
namespace Go.WW
open Go.RowKit

/-! ### Rows of k cells, one behind the other -/

def flat (rows : List (Array Value)) : List Value := rows.flatMap (·.toList)
theorem flat_nil : flat [] = [] := rfl
theorem flat_cons (r : Array Value) (rows : List (Array Value)) : flat (r :: rows) = r.toList ++ flat rows := rfl
theorem flat_append (a b : List (Array Value)) : flat (a ++ b) = flat a ++ flat b := by simp [flat]
theorem flat_length {k : Nat} : ∀ {rows : List (Array Value)}, (∀ r ∈ rows, r.size = k) → (flat rows).length = rows.length * k
  | [], _ => by simp [flat]
  | r :: rows, h => by
    rw [flat_cons, List.length_append, flat_length (fun x hx => h x (by simp [hx])), List.length_cons, Nat.succ_mul]
    have := h r (by simp)
    simp [this]; omega
theorem flat_get {k : Nat} : ∀ {rows : List (Array Value)} (_ : ∀ r ∈ rows, r.size = k) (i j : Nat) (hi : i < rows.length) (_ : j < k), (flat rows)[i * k + j]? = rows[i][j]?
  | [], _, i, j, hi, _ => by simp at hi
  | r :: rows, h, 0, j, _, hj => by
    have := h r (by simp)
    rw [flat_cons, Nat.zero_mul, Nat.zero_add, List.getElem?_append_left (by simp; omega)]
    simp
  | r :: rows, h, i + 1, j, hi, hj => by
    have hr := h r (by simp)
    rw [flat_cons, List.getElem?_append_right (by simp [Nat.succ_mul]; omega)]
    have e : (i + 1) * k + j - r.toList.length = i * k + j := by simp [Nat.succ_mul]; omega
    rw [e, flat_get (fun x hx => h x (by simp [hx])) i j (by simpa using hi) hj]
    simp

/-- The slice s of the call's own holds the rows, each of k cells. -/
structure Own (w : World) (base : Nat) (e : TypeId) (k : Nat) (s : Sl) (rows : List (Array Value)) : Prop where
  own : w.ownsRow base e k (.slice s.a rows.length s.cap) rows.length (flat rows)
  size : ∀ r ∈ rows, r.size = k

def Sl.blk (s : Sl) : Option Nat := s.a.map (·.block)
theorem ownBlock_slice (s : Sl) (n : Nat) : Value.ownBlock (.slice s.a n s.cap) = s.blk := by
  unfold Sl.blk Value.ownBlock; cases s.a <;> rfl

theorem Own.nil (w : World) (base : Nat) (e : TypeId) (k : Nat) : Own w base e k ⟨none, 0⟩ [] := ⟨World.ownsRow_nil w base e k, by simp⟩
theorem Own.base {w : World} {base : Nat} {e : TypeId} {k : Nat} {s : Sl} {rows : List (Array Value)} (h : Own w base e k s rows) {g : Nat} (hg : s.blk = some g) : base ≤ g ∧ g < w.heap.size :=
  h.own.lt g (by rw [ownBlock_slice]; exact hg)
theorem Own.kept {w w' : World} {base : Nat} {e : TypeId} {k : Nat} {s : Sl} {rows : List (Array Value)} (h : Own w base e k s rows) (hb : ∀ g, s.blk = some g → w'.heap[g]? = w.heap[g]?) : Own w' base e k s rows := by
  refine ⟨⟨h.own.1, ?_⟩, h.size⟩
  rcases h.own.2 with hn | ⟨g, cap, cur, hv, h1, hg, rest⟩
  · exact .inl hn
  · refine .inr ⟨g, cap, cur, hv, h1, ?_, rest⟩
    have ha : s.a = some ⟨g, 0, none⟩ := by injection hv
    rw [hb g (by simp [Sl.blk, ha])]; exact hg
theorem Own.row {w : World} {base : Nat} {e : TypeId} {k : Nat} {s : Sl} {rows : List (Array Value)} (h : Own w base e k s rows) (i : Nat) (hi : i < rows.length) :
    ∃ g, s.a = some ⟨g, 0, none⟩ ∧ s.blk = some g ∧ row? w g (0 + i * k) k = some rows[i] := by
  rcases h.own.2 with ⟨_, hn⟩ | ⟨g, cap, cur, hv, h1, hg, hle, _, hsz, htake⟩
  · omega
  · have ha : s.a = some ⟨g, 0, none⟩ := by injection hv
    refine ⟨g, ha, by simp [Sl.blk, ha], ?_⟩
    unfold row?
    rw [hg, Nat.zero_add]
    have h2 : i * k + k ≤ rows.length * k := by rw [← Nat.succ_mul]; exact Nat.mul_le_mul_right _ hi
    have h3 : rows.length * k ≤ cur.size := by rw [hsz]; exact Nat.mul_le_mul_right _ hle
    show (if i * k + k ≤ cur.size then _ else _) = _
    rw [if_pos (by omega)]
    congr 1
    have hrs := h.size rows[i] (List.getElem_mem hi)
    apply Array.ext_getElem?
    intro j
    by_cases hj : j < k
    · rw [Array.getElem?_extract]
      have e1 : j < min (i * k + k) cur.size - i * k := by omega
      rw [if_pos e1, ← flat_get h.size i j hi hj, ← htake, List.getElem?_take, if_pos (by omega)]
      simp
    · rw [Array.getElem?_eq_none (by simp; omega), Array.getElem?_eq_none (by omega)]

/-! ### The source of an append -/

/-- The slice x of m rows. -/
structure SrcRows (w : World) (k : Nat) (A : Option Addr) (rows : List (Array Value)) : Prop where
  size : ∀ r ∈ rows, r.size = k
  one : ∀ r ∈ rows, allOne r = true
  at_ : ∀ i (hi : i < rows.length), ∃ b o, A = some ⟨b, o, none⟩ ∧ row? w b (o + i * k) k = some rows[i]

theorem SrcRows.cells {w : World} {k : Nat} {A : Option Addr} {rows : List (Array Value)} (h : SrcRows w k A rows) (hk : 0 < k) (hn : 0 < rows.length) :
    ∃ b o, A = some ⟨b, o, none⟩ ∧ ∀ j u, (flat rows)[j]? = some u → w.cell? ((⟨b, o, none⟩ : Addr).add j) = some u := by
  obtain ⟨b, o, ha, _⟩ := h.at_ 0 hn
  refine ⟨b, o, ha, fun j u hu => ?_⟩
  have hj : j < rows.length * k := by have := (List.getElem?_eq_some_iff.1 hu).1; rwa [flat_length h.size] at this
  have hi : j / k < rows.length := by rw [Nat.div_lt_iff_lt_mul hk]; exact hj
  have hr : j % k < k := Nat.mod_lt _ hk
  have e : j / k * k + j % k = j := Nat.div_add_mod' j k
  obtain ⟨b', o', ha', hrow⟩ := h.at_ (j / k) hi
  rw [ha] at ha'; cases ha'
  have hg := flat_get h.size (j / k) (j % k) hi hr
  rw [e, hu] at hg
  have hc := row?_cell hrow (j % k) hr
  rw [Nat.add_assoc, e] at hc
  have hadd : (⟨b, o, none⟩ : Addr).add j = ⟨b, o + j, none⟩ := by unfold Addr.add; split <;> simp_all
  rw [hadd, hc, ← hg]

theorem SrcRows.vals {w : World} {k : Nat} {A : Option Addr} {rows : List (Array Value)} (h : SrcRows w k A rows) : ∀ u ∈ flat rows, u.oneCell' = true := by
  intro u hu
  obtain ⟨r, hr, hur⟩ := List.mem_flatMap.1 hu
  have := h.one r hr
  unfold allOne at this
  rw [Array.all_eq_true'] at this
  exact this u (by simpa using hur)

/-- A new block with one row. -/
theorem SrcRows.new (w : World) (cs : Array Value) (t : TypeId) (k : Nat) (hs : cs.size = k) (h1 : allOne cs = true) : SrcRows (w.alloc (.cells cs t)) k (some ⟨w.heap.size, 0, none⟩) [cs] :=
  ⟨by simpa using hs, by simpa using h1, fun i hi => ⟨_, _, rfl, by
    obtain rfl : i = 0 := by simp at hi; exact hi
    rw [row?_alloc_at rfl, Nat.zero_add, Nat.zero_mul, subRow_whole hs]; rfl⟩⟩

/-- What is asked of an element's type. -/
structure ElemOk (P : Program) (t e : TypeId) (k bytes : Nat) : Prop where
  und : P.underlying t = some (.slice e)
  info : ∃ i z, P.info? e = some i ∧ i.zero = some z ∧ i.size = k ∧ i.bytes = bytes ∧ z.cells.size = k
  pos : 0 < k

def elemB (x : Option (Option Nat × Nat × Nat)) (k bytes : Nat) : Bool := match x with | some (some a, b, c) => a == k && b == k && c == bytes && decide (0 < k) | _ => false
theorem ElemOk.of {P : Program} {t e : TypeId} {k bytes : Nat} (hu : P.underlying t = some (.slice e)) (h : elemB ((P.info? e).map fun i => (i.zero.map (·.cells.size), i.size, i.bytes)) k bytes = true) : ElemOk P t e k bytes := by
  unfold elemB at h
  cases hi : P.info? e with
  | none => rw [hi] at h; cases h
  | some i =>
    rw [hi] at h
    simp only [Option.map_some] at h
    cases hz : i.zero with
    | none => rw [hz] at h; cases h
    | some z =>
      rw [hz] at h
      simp only [Option.map_some, Bool.and_eq_true, beq_iff_eq, decide_eq_true_eq] at h
      exact ⟨hu, ⟨i, z, hi, hz, h.1.1.2, h.1.2, h.1.1.1⟩, h.2⟩

theorem run_append_nil {P : Program} {t ty e : TypeId} {k bytes : Nat} (he : ElemOk P t e k bytes) (w : World) {base : Nat} {s : Sl} {rows : List (Array Value)} (h : Own w base e k s rows) (c : Nat) :
    (Builtin.append_ #[t, t] ty #[.slice s.a rows.length s.cap, .slice none 0 c]).run P w = .ok (.slice s.a rows.length s.cap) w := by
  obtain ⟨i, z, hi, hz, h1, h2, h3⟩ := he.info
  rcases h.own.2 with ⟨hv, hn⟩ | ⟨g, cap, cur, hv, _, _, hnc, _⟩
  · rw [hv]; simp [Builtin.append_, run_underlying he.und, sizeOf, typeInfo, hi, Builtin.lenOf, Builtin.firstCells]
  · rw [hv]; simp [Builtin.append_, run_underlying he.und, sizeOf, typeInfo, hi, Builtin.lenOf, Builtin.firstCells, hnc, storeCells]

theorem run_append_rows {P : Program} {t ty e : TypeId} {k bytes : Nat} (he : ElemOk P t e k bytes) (w : World) {base : Nat} {s : Sl} {rows : List (Array Value)} (h : Own w base e k s rows) {A : Option Addr} {news : List (Array Value)} (c : Nat)
    (hs : SrcRows w k A news) (hlen : (rows.length + news.length) * (bytes + 1) ≤ 140737488355328) (hbase : base ≤ w.heap.size) :
    ∃ s' w', (Builtin.append_ #[t, t] ty #[.slice s.a rows.length s.cap, .slice A news.length c]).run P w = .ok (.slice s'.a (rows.length + news.length) s'.cap) w' ∧ Own w' base e k s' (rows ++ news) ∧ w.grownBy w' s.blk ∧ (s'.blk = s.blk ∨ s'.blk = some w.heap.size) := by
  have hl1 : rows.length + news.length ≤ maxLen := by
    have : rows.length + news.length ≤ (rows.length + news.length) * (bytes + 1) := Nat.le_mul_of_pos_right _ (by omega)
    unfold maxLen; omega
  have hl2 : (rows.length + news.length) * bytes ≤ 140737488355328 := Nat.le_trans (Nat.mul_le_mul_left _ (by omega)) hlen
  have main : ∀ b o, A = some ⟨b, o, none⟩ → (∀ j u, (flat news)[j]? = some u → w.cell? ((⟨b, o, none⟩ : Addr).add j) = some u) →
      ∃ s' w', (Builtin.append_ #[t, t] ty #[.slice s.a rows.length s.cap, .slice A news.length c]).run P w = .ok (.slice s'.a (rows.length + news.length) s'.cap) w' ∧ Own w' base e k s' (rows ++ news) ∧ w.grownBy w' s.blk ∧ (s'.blk = s.blk ∨ s'.blk = some w.heap.size) := by
    intro b o hA hcells
    obtain ⟨i, z, hi, hz, h1, h2, h3⟩ := he.info
    obtain ⟨v', w', hrun, hown, hg, _, hb⟩ := run_append_own_at (P := P) w base t ty e i z k bytes he.und hi hz h1 h2 h3 he.pos (.slice s.a rows.length s.cap) rows.length (flat rows) h.own ⟨b, o, none⟩ news.length c (flat news) (flat_length hs.size) hcells hs.vals hl1 hl2 hbase
    rw [ownBlock_slice] at hg hb
    have hform : ∃ s' : Sl, v' = .slice s'.a (rows.length + news.length) s'.cap := by
      rcases hown.2 with ⟨hv, hn⟩ | ⟨g, cap, cur, hv, _⟩
      · exact ⟨⟨none, 0⟩, by rw [hv, hn]⟩
      · exact ⟨⟨some ⟨g, 0, none⟩, cap⟩, hv⟩
    obtain ⟨s', rfl⟩ := hform
    rw [ownBlock_slice] at hb
    refine ⟨s', w', by rw [hA]; exact hrun, ⟨by rw [List.length_append, flat_append]; exact hown, fun r hr => ?_⟩, hg, hb⟩
    rcases List.mem_append.1 hr with hr | hr
    · exact h.size r hr
    · exact hs.size r hr
  rcases Nat.eq_zero_or_pos news.length with hn | hn
  · obtain rfl : news = [] := List.eq_nil_of_length_eq_zero hn
    cases A with
    | none =>
      refine ⟨s, w, ?_, by simpa using h, World.grownBy.refl w _, .inl rfl⟩
      exact run_append_nil he w h c
    | some a =>
      obtain ⟨i, z, hi, hz, h1, h2, h3⟩ := he.info
      obtain ⟨v', w', hrun, hown, hg, _, hb⟩ := run_append_own_at (P := P) w base t ty e i z k bytes he.und hi hz h1 h2 h3 he.pos (.slice s.a rows.length s.cap) rows.length (flat rows) h.own a 0 c [] (by simp) (by simp) (by simp) hl1 hl2 hbase
      rw [ownBlock_slice] at hg hb
      have hform : ∃ s' : Sl, v' = .slice s'.a (rows.length + 0) s'.cap := by
        rcases hown.2 with ⟨hv, hn⟩ | ⟨g, cap, cur, hv, _⟩
        · exact ⟨⟨none, 0⟩, by rw [hv, hn]⟩
        · exact ⟨⟨some ⟨g, 0, none⟩, cap⟩, hv⟩
      obtain ⟨s', rfl⟩ := hform
      rw [ownBlock_slice] at hb
      exact ⟨s', w', hrun, ⟨by simpa using hown, by simpa using h.size⟩, hg, hb⟩
  · obtain ⟨b, o, hA, hc⟩ := hs.cells he.pos hn
    exact main b o hA hc

theorem wp_append_rows {P : Program} {o : Oper} {a : Act} {w : World} {K : Act → World → Prop} {Q : Exit → Act → World → Prop} (x y : Operand) (t : TypeId) (ho : o.op = .call { callee := .builtin .append, args := #[x, y], argTypes := #[t, t] })
    {e : TypeId} {k bytes : Nat} (he : ElemOk P t e k bytes) {base : Nat} {s : Sl} {rows : List (Array Value)} (hx : a.eval x = .slice s.a rows.length s.cap) (h : Own w base e k s rows) {A : Option Addr} {news : List (Array Value)} {m c : Nat}
    (hy : a.eval y = .slice A m c) (hm : m = news.length) (hs : SrcRows w k A news) (hlen : (rows.length + news.length) * (bytes + 1) ≤ 140737488355328) (hbase : base ≤ w.heap.size)
    (hK : ∀ (s' : Sl) w', Own w' base e k s' (rows ++ news) → w.grownBy w' s.blk → (s'.blk = s.blk ∨ s'.blk = some w.heap.size) → K (a.put o.dst (.slice s'.a (rows.length + news.length) s'.cap)) w') : o.wp P a w K Q := by
  subst hm
  obtain ⟨s', w', hrun, h2, h3, h4⟩ := run_append_rows (ty := o.type) he w h c hs hlen hbase
  unfold Oper.wp execOp
  simp only [ho, resolve, invoke, builtin, Sem.run_bind, Sem.run_pure, Result.andThen_ok, List.map_toArray, List.map_cons, List.map_nil, hx, hy, hrun]
  exact hK s' w' h2 h3 h4

theorem wpList_append_rows {P : Program} {ops : Array Oper} {rest : List Oper} {o : Oper} {a : Act} {w : World} {Q : Exit → Act → World → Prop} (hgd : o.guard = none) (x y : Operand) (t : TypeId) (ho : o.op = .call { callee := .builtin .append, args := #[x, y], argTypes := #[t, t] })
    {e : TypeId} {k bytes : Nat} (he : ElemOk P t e k bytes) {base : Nat} {s : Sl} {rows : List (Array Value)} (hx : a.eval x = .slice s.a rows.length s.cap) (h : Own w base e k s rows) {A : Option Addr} {news : List (Array Value)} {m c : Nat}
    (hy : a.eval y = .slice A m c) (hm : m = news.length) (hs : SrcRows w k A news) (hlen : (rows.length + news.length) * (bytes + 1) ≤ 140737488355328) (hbase : base ≤ w.heap.size)
    (hK : ∀ (s' : Sl) w', Own w' base e k s' (rows ++ news) → w.grownBy w' s.blk → (s'.blk = s.blk ∨ s'.blk = some w.heap.size) → wpList P ops Q rest (a.put o.dst (.slice s'.a (rows.length + news.length) s'.cap)) w') : wpList P ops Q (o :: rest) a w :=
  wpList_plain hgd fun _ hK' => wp_append_rows x y t ho he hx h hy hm hs hlen hbase fun s' w' h2 h3 h4 => hK' _ _ (hK s' w' h2 h3 h4)

/-! ### What depends on some blocks alone -/

/-- Φ holds in every world that agrees with w at the blocks S. -/
def Dep (w : World) (S : Nat → Prop) (Φ : World → Prop) : Prop := ∀ w' : World, (∀ k, S k → w'.heap[k]? = w.heap[k]?) → Φ w'
theorem Dep.out {w : World} {S : Nat → Prop} {Φ : World → Prop} (h : Dep w S Φ) : Φ w := h w fun _ _ => rfl
theorem Dep.to {w w1 : World} {S S1 : Nat → Prop} {Φ : World → Prop} (h : Dep w S Φ) (hw : ∀ k, S k → w1.heap[k]? = w.heap[k]?) (hS : ∀ k, S k → S1 k) : Dep w1 S1 Φ :=
  fun w' hw' => h w' fun k hk => (hw' k (hS k hk)).trans (hw k hk)
/-- The blocks made since. -/
def fresh (base : Nat) (w : World) : Nat → Prop := fun k => base ≤ k ∧ k < w.heap.size
/-- .. but one. -/
def freshBut (base : Nat) (w : World) (g : Option Nat) : Nat → Prop := fun k => base ≤ k ∧ k < w.heap.size ∧ some k ≠ g
end Go.WW
/- From lists in memory to rows, and back. -/
namespace Go.WW
open Go.RowKit
theorem RowsAt.src {w : World} {k n : Nat} {a : Option Addr} {R : Nat → Array Value → Prop} (h : RowsAt w k a n R) (hR : ∀ i cs, R i cs → cs.size = k ∧ allOne cs = true) :
    ∃ rows, rows.length = n ∧ SrcRows w k a rows ∧ ∀ i (hi : i < rows.length), R i rows[i] := by
  rcases Nat.eq_zero_or_pos n with h0 | h0
  · subst h0; exact ⟨[], rfl, ⟨by simp, by simp, fun i hi => by simp at hi⟩, fun i hi => by simp at hi⟩
  · obtain ⟨b, o, _, ha, _⟩ := h.2 0 h0
    have key : ∀ i, i < n → ∃ cs, row? w b (o + i * k) k = some cs ∧ R i cs := fun i hi => by
      obtain ⟨b', o', cs, ha', hr, hc⟩ := h.2 i hi
      rw [ha] at ha'; cases ha'
      exact ⟨cs, hr, hc⟩
    have hg : ∀ i (hi : i < ((List.range n).map fun i => (row? w b (o + i * k) k).getD #[]).length), ∃ cs, ((List.range n).map fun i => (row? w b (o + i * k) k).getD #[])[i] = cs ∧ row? w b (o + i * k) k = some cs ∧ R i cs := fun i hi => by
      have hi' : i < n := by simpa using hi
      obtain ⟨cs, h1, h2⟩ := key i hi'
      exact ⟨cs, by simp [h1], h1, h2⟩
    refine ⟨(List.range n).map fun i => (row? w b (o + i * k) k).getD #[], by simp, ⟨fun r hr => ?_, fun r hr => ?_, fun i hi => ?_⟩, fun i hi => ?_⟩
    · obtain ⟨i, hi, rfl⟩ := List.mem_iff_getElem.1 hr
      obtain ⟨cs, e, _, h2⟩ := hg i hi
      rw [e]; exact (hR i cs h2).1
    · obtain ⟨i, hi, rfl⟩ := List.mem_iff_getElem.1 hr
      obtain ⟨cs, e, _, h2⟩ := hg i hi
      rw [e]; exact (hR i cs h2).2
    · obtain ⟨cs, e, h1, _⟩ := hg i hi
      exact ⟨b, o, ha, by rw [e]; exact h1⟩
    · obtain ⟨cs, e, _, h2⟩ := hg i hi
      rw [e]; exact h2
theorem RowsAt.of_own {w : World} {base k n : Nat} {e : TypeId} {s : Sl} {rows : List (Array Value)} {R : Nat → Array Value → Prop} (h : Own w base e k s rows) (hl : rows.length = n) (hn : n ≤ lim) (hR : ∀ i (hi : i < rows.length), R i rows[i]) : RowsAt w k s.a n R := by
  subst hl
  refine ⟨hn, fun i hi => ?_⟩
  obtain ⟨g, ha, _, hrow⟩ := h.row i hi
  exact ⟨g, 0, rows[i], ha, hrow, hR i hi⟩
theorem row?_one {w : World} {b o : Nat} {v : Value} (h : w.cell? ⟨b, o, none⟩ = some v) : row? w b o 1 = some #[v] := by
  have hlt := World.block_lt_of_cell? w _ h
  unfold row?
  cases hb : w.heap[b]? with
  | none => exfalso; simp [World.cell?, hb] at h
  | some ob =>
    cases ob with
    | cells c t f =>
      rw [cell_of_row w b o c t f hb] at h
      have ho := (Array.getElem?_eq_some_iff.1 h).1
      show (if o + 1 ≤ c.size then _ else _) = _
      rw [if_pos (by omega)]
      congr 1
      apply Array.ext_getElem?
      intro j
      rw [Array.getElem?_extract]
      by_cases hj : j = 0
      · subst hj; rw [if_pos (by omega)]; simpa using h
      · rw [if_neg (by omega)]; simp; omega
    | _ => exfalso; simp [World.cell?, hb] at h
theorem CellsAt.src {w : World} {n : Nat} {a : Option Addr} {R : Nat → Value → Prop} (h : CellsAt w a n R) (hR : ∀ i v, R i v → v.oneCell' = true) :
    ∃ rows, rows.length = n ∧ SrcRows w 1 a rows ∧ ∀ i (hi : i < rows.length), ∃ v, rows[i] = #[v] ∧ R i v := by
  have h' : RowsAt w 1 a n (fun i cs => ∃ v, cs = #[v] ∧ R i v) := ⟨h.1, fun i hi => by
    obtain ⟨b, o, v, ha, hc, hr⟩ := h.2 i hi
    exact ⟨b, o, #[v], ha, by rw [Nat.mul_one]; exact row?_one hc, v, rfl, hr⟩⟩
  obtain ⟨rows, h1, h2, h3⟩ := h'.src (fun i cs ⟨v, e, hr⟩ => by subst e; exact ⟨rfl, by simp [allOne, hR i v hr]⟩)
  exact ⟨rows, h1, h2, h3⟩
theorem CellsAt.of_own {w : World} {base n : Nat} {e : TypeId} {s : Sl} {rows : List (Array Value)} {R : Nat → Value → Prop} (h : Own w base e 1 s rows) (hl : rows.length = n) (hn : n ≤ lim) (hR : ∀ i (hi : i < rows.length), ∃ v, rows[i] = #[v] ∧ R i v) : CellsAt w s.a n R := by
  subst hl
  refine ⟨hn, fun i hi => ?_⟩
  obtain ⟨g, ha, _, hrow⟩ := h.row i hi
  obtain ⟨v, e, hr⟩ := hR i hi
  refine ⟨g, 0, v, ha, ?_, hr⟩
  have := row?_cell hrow 0 (by omega)
  rw [e, Nat.mul_one] at this
  simpa using this
theorem wpList_append_w {P : Program} {ops : Array Oper} {rest : List Oper} {o : Oper} {a : Act} {w : World} {Q : Exit → Act → World → Prop} (hw : Region.wanted o (yielded ops a.tmps) = true) (x y : Operand) (t : TypeId) (ho : o.op = .call { callee := .builtin .append, args := #[x, y], argTypes := #[t, t] })
    {e : TypeId} {k bytes : Nat} (he : ElemOk P t e k bytes) {base : Nat} {s : Sl} {n : Nat} {rows : List (Array Value)} (hx : a.eval x = .slice s.a n s.cap) (hn : n = rows.length) (h : Own w base e k s rows) {A : Option Addr} {news : List (Array Value)} {m c : Nat}
    (hy : a.eval y = .slice A m c) (hm : m = news.length) (hs : SrcRows w k A news) (hlen : (rows.length + news.length) * (bytes + 1) ≤ 140737488355328) (hbase : base ≤ w.heap.size)
    (hK : ∀ (s' : Sl) w', Own w' base e k s' (rows ++ news) → w.grownBy w' s.blk → (s'.blk = s.blk ∨ s'.blk = some w.heap.size) → wpList P ops Q rest (a.put o.dst (.slice s'.a (n + m) s'.cap)) w') : wpList P ops Q (o :: rest) a w := by
  subst hn hm
  refine wpList_step fun K hK' => ?_
  rw [if_pos hw]
  exact wp_append_rows x y t ho he hx h hy rfl hs hlen hbase fun s' w' h2 h3 h4 => hK' _ _ (hK s' w' h2 h3 h4)
/-- A slice just made, with one row. -/
theorem Own.one (w : World) (cs : Array Value) (t : TypeId) (k : Nat) (hs : cs.size = k) : Own (w.alloc (.cells cs t)) w.heap.size t k ⟨some ⟨w.heap.size, 0, none⟩, 1⟩ [cs] := by
  refine ⟨⟨by simp [flat, hs], .inr ⟨w.heap.size, 1, cs, rfl, Nat.le_refl _, World.alloc_heap_new w _, Nat.le_refl _, by unfold maxLen; omega, by simp [hs], ?_⟩⟩, by simpa using hs⟩
  simp only [flat, List.flatMap_cons, List.flatMap_nil, List.append_nil, List.length_singleton, Nat.one_mul]
  exact List.take_of_length_le (by simp [hs])
theorem prinR_ok {w : World} {l : List Prin} (i : Nat) (cs : Array Value) (h : ∃ p s, l[i]? = some p ∧ cs = prinC s p ∧ PrinAt w s p) : cs.size = 2 ∧ allOne cs = true := by
  obtain ⟨p, s, _, rfl, _⟩ := h; exact ⟨prinC_size s p, prinC_one s p⟩
end Go.WW
/- math/bits.RotateLeft32 and sha.turned. -/
namespace Go.WW
open Go.RowKit
def rotF (x : Int) (n : Nat) : Int := bits .or .u32 (x * 2 ^ n % 4294967296) (x / 2 ^ (32 - n))
def turnF (x : Int) (ps : List Nat) : Int := ps.foldl (fun y p => bits .xor .u32 y (rotF x (32 - p))) 0
theorem turnF_step (x : Int) (ps : List Nat) (k : Nat) (h : k < ps.length) : turnF x (ps.take (k + 1)) = bits .xor .u32 (turnF x (ps.take k)) (rotF x (32 - ps[k])) := by
  unfold turnF
  rw [List.take_succ_eq_append_getElem h, List.foldl_append]; rfl
theorem negs31 : ∀ p : Fin 31, bits .and .u64 (IntKind.u64.wrap (-((p.val : Int) + 1))) 31 = ((31 - p.val : Nat) : Int) := by decide +kernel
theorem negs (p : Nat) (h : 1 ≤ p ∧ p ≤ 31) : bits .and .u64 (IntKind.u64.wrap (-(p : Int))) 31 = ((32 - p : Nat) : Int) := by
  have := negs31 ⟨p - 1, by omega⟩
  have e : ((p - 1 : Nat) : Int) + 1 = (p : Int) := by omega
  simp only [e] at this
  rw [this]; congr 1; omega
end Go.WW
namespace Go.Proofs.YtpibcnchkndejaaGreatDoor
open Go.RowKit Go.WW
theorem rot_c (x k : Int) (n : Nat) (hn : n ≤ 31) (hk : bits .and .u64 (IntKind.u64.wrap k) 31 = (n : Int)) (w : World) : Calls Tryz.prog 264 #[.int .u32 x, .int .i64 k] w fun e w' => e = .returned (.int .u32 (rotF x n)) ∧ w = w' := by
  have h0 : (0 : Int) ≤ (n : Int) := by omega
  have h1 : (n : Int) ≤ 32 := by omega
  have h2 : (0 : Int) ≤ 32 - (n : Int) := by omega
  have h3 : (32 : Int) - (n : Int) ≤ 32 := by omega
  go_enter Tryz.func264, Tryz.ntmps264
  go_wp2
  go_ret
  exact ⟨rfl, rfl⟩
set_option maxHeartbeats 1000000 in
theorem turned_c (x : Int) (b o cap : Nat) (ps : List Nat) (hp : ∀ p ∈ ps, 1 ≤ p ∧ p ≤ 31) (hl : ps.length ≤ 64) (w : World) (hc : ∀ i (h : i < ps.length), w.cell? ⟨b, o + i, none⟩ = some (.int .i64 (ps[i] : Nat))) :
    Calls Tryz.prog 250 #[.int .u32 x, .slice (some ⟨b, o, none⟩) ps.length cap] w fun e w' => e = .returned (.int .u32 (turnF x ps)) ∧ w = w' := by
  have HC := Lib.hid hc
  have HP := Lib.hid hp
  clear hc hp
  go_enter Tryz.func250, Tryz.ntmps250
  go_wp2_with fail
  go_loop [4, 9] (fun y i => ∃ k : Nat, k ≤ ps.length ∧ i = .int .i64 k ∧ y = .int .u32 (turnF x (ps.take k))) (fun _ i => ps.length - (intOf i).toNat)
  case atStart => exact ⟨0, Nat.zero_le _, rfl, rfl⟩
  case round =>
    obtain ⟨k, hk, rfl, rfl⟩ := hrel
    by_cases hlt : k < ps.length
    · have hcell := HC.out k hlt
      have hpk := HP.out ps[k] (List.getElem_mem hlt)
      have HS := Lib.hid (turnF_step x ps k hlt)
      have hgb : b < w.heap.size := World.block_lt_of_cell? w _ hcell
      have HN := Lib.hid (negs ps[k] hpk)
      go_wp2_with (go_at_call 264; refine (rot_c _ _ (32 - ps[k]) (by omega) HN.out _).mono ?_; rintro e w' ⟨rfl, rfl⟩)
      go_round
      case rel => exact ⟨k + 1, by omega, by go_num, by rw [HS.out]⟩
      case measure => simp [intOf]; omega
    · have HE := Lib.hid (show turnF x (ps.take k) = turnF x ps by rw [List.take_of_length_le (by omega)])
      go_wp2_with fail
      go_ret
      exact ⟨by rw [← HE.out]; rfl, rfl⟩
end Go.Proofs.YtpibcnchkndejaaGreatDoor
/- The choice of sha's add. -/
namespace Go.Proofs.YtpibcnchkndejaaGreatDoor
open Go.RowKit Go.WW
theorem choice_c (x y z : Int) (w : World) : Calls Tryz.prog 251 #[.int .u32 x, .int .u32 y, .int .u32 z] w fun e w' => e = .returned (.int .u32 (bits .xor .u32 (bits .and .u32 x y) (bits .and .u32 (bits .xor .u32 IntKind.u32.max x) z))) ∧ w = w' := by
  go_enter Tryz.func251, Tryz.ntmps251
  go_wp2
  go_ret
  exact ⟨rfl, rfl⟩
end Go.Proofs.YtpibcnchkndejaaGreatDoor
