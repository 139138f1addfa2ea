/- An update's cells. Printed by wip/src/genupd.py. -/
import Derived.Test.YtgmoeigmcdpkoaaGreatDoorWB
namespace Go.WW
open Go.RowKit
def updC (i t m k : Int) (s : Sl) (n : Prin) (r : ERaw) (d : Entry) (q : Policy) (pn : ByteArray) (f a b : Int) : Array Value := #[.int .i64 i, .int .i64 t, .int .i64 m, .int .i64 k, .slice s.a n.parts.length s.cap, .string n.realm, .slice r.parts.a d.name.parts.length r.parts.cap, .string d.name.realm, .slice r.aliases.a d.aliases.length r.aliases.cap, .int .u32 d.attrs, .int .i64 d.master, .slice r.keys.a d.keys.length r.keys.cap, .string d.policy, .int .i64 d.expires, .int .i64 d.pwExpires, .int .i64 d.maxLife, .int .i64 d.maxRenew, .int .i64 d.fails, .int .i64 d.lastFail, .int .i64 d.lastSuccess, .slice r.targets.a d.targets.length r.targets.cap, .slice r.delegates.a d.delegates.length r.delegates.cap, .slice r.history.a d.history.length r.history.cap, .string q.name, .int .i64 q.length, .int .i64 q.classes, .int .i64 q.distinct, .int .i64 q.history, .int .i64 q.minAge, .int .i64 q.maxAge, .int .i64 q.fails, .int .i64 q.window, .int .i64 q.lock, .string pn, .int .i64 f, .int .i64 a, .int .i64 b]
theorem updC_size (i t m k : Int) (s : Sl) (n : Prin) (r : ERaw) (d : Entry) (q : Policy) (pn : ByteArray) (f a b : Int) : (updC i t m k s n r d q pn f a b).size = 37 := by simp [updC]
theorem updC_one (i t m k : Int) (s : Sl) (n : Prin) (r : ERaw) (d : Entry) (q : Policy) (pn : ByteArray) (f a b : Int) : allOne (updC i t m k s n r d q pn f a b) = true := by simp [allOne, updC, Value.oneCell']
theorem updC_23 (i t m k : Int) (s : Sl) (n : Prin) (r : ERaw) (d : Entry) (q : Policy) (pn : ByteArray) (f a b : Int) : (updC i t m k s n r d q pn f a b)[23]? = some (.string q.name) := by simp [updC]
theorem updC_g23 (i t m k : Int) (s : Sl) (n : Prin) (r : ERaw) (d : Entry) (q : Policy) (pn : ByteArray) (f a b : Int) (h : 23 < (updC i t m k s n r d q pn f a b).size) : (updC i t m k s n r d q pn f a b)[23]'h = .string q.name := by simp [updC]
theorem updC_33 (i t m k : Int) (s : Sl) (n : Prin) (r : ERaw) (d : Entry) (q : Policy) (pn : ByteArray) (f a b : Int) : (updC i t m k s n r d q pn f a b)[33]? = some (.string pn) := by simp [updC]
theorem updC_g33 (i t m k : Int) (s : Sl) (n : Prin) (r : ERaw) (d : Entry) (q : Policy) (pn : ByteArray) (f a b : Int) (h : 33 < (updC i t m k s n r d q pn f a b).size) : (updC i t m k s n r d q pn f a b)[33]'h = .string pn := by simp [updC]
theorem updC_prin (i t m k : Int) (s : Sl) (n : Prin) (r : ERaw) (d : Entry) (q : Policy) (pn : ByteArray) (f a b : Int) : subRow (updC i t m k s n r d q pn f a b) 4 2 = some (prinC s n) := by kernel_rfl
theorem updC_ent (i t m k : Int) (s : Sl) (n : Prin) (r : ERaw) (d : Entry) (q : Policy) (pn : ByteArray) (f a b : Int) : subRow (updC i t m k s n r d q pn f a b) 6 17 = some (entC r d) := by kernel_rfl
theorem updC_lt (i t m k : Int) (s : Sl) (n : Prin) (r : ERaw) (d : Entry) (q : Policy) (pn : ByteArray) (f a b : Int) (j : Nat) (h : j < 37) : j < (updC i t m k s n r d q pn f a b).size := h
attribute [go_sem] updC_size updC_one updC_23 updC_g23 updC_33 updC_g33 updC_prin updC_ent
end Go.WW
namespace Go.Proofs.YtgmoeigmcdpkoaaGreatDoor
open Go.RowKit Go.WW
theorem loadUpdate (w : World) (b o : Nat) : (structLoad 36 (.pointer (some ⟨b, o, none⟩))).run Tryz.prog w = rowOut Tryz.prog 36 w b o (row? w b o 37) := run_structLoad Tryz.underlying36 rfl (by kernel_rfl) w b o
theorem execOp_loadUpdate (ρ : Operand → Value) (dst : Option Tmp) (x : Operand) (ty : TypeId) (pos : String) (after : Array Edge) (guard : Option (Nat × Bool)) : execOp ρ { dst, op := .load 36 x, type := ty, pos, after, guard } = structLoad 36 (ρ x) := rfl
attribute [go_sem] loadUpdate
attribute [go_sem ↓] execOp_loadUpdate
end Go.Proofs.YtgmoeigmcdpkoaaGreatDoor
/- law29.large. -/
namespace Go.WW
open Go.RowKit
noncomputable def boolOf (p : Prop) : Bool := @decide p (Classical.propDecidable p)
theorem boolOf_t {p : Prop} (h : p) : boolOf p = true := @decide_eq_true p (Classical.propDecidable p) h
theorem boolOf_f {p : Prop} (h : ¬ p) : boolOf p = false := @decide_eq_false p (Classical.propDecidable p) h
theorem below_box {w : World} (cs : Array Value) (t : TypeId) : Below w.heap.size w (w.alloc (.cells cs t)) := (Below.refl _ _).alloc (Nat.le_refl _) _
theorem wp_append_n {P : Program} {o : Oper} {a : Act} {w : World} {K : Act → World → Prop} {Q : Exit → Act → World → Prop} (x y : Operand) (t : TypeId) (ho : o.op = .call { callee := .builtin .append, args := #[x, y], argTypes := #[t, t] })
    {e : TypeId} {k bytes : Nat} (he : ElemOk P t e k bytes) {base : Nat} {s : Sl} {n : Nat} {rows : List (Array Value)} (hx : a.eval x = .slice s.a n s.cap) (hn : n = rows.length) (h : Own w base e k s rows) {A : Option Addr} {news : List (Array Value)} {m c : Nat}
    (hy : a.eval y = .slice A m c) (hm : m = news.length) (hs : SrcRows w k A news) (hlen : (rows.length + news.length) * (bytes + 1) ≤ 140737488355328) (hbase : base ≤ w.heap.size)
    (hK : ∀ (s' : Sl) w', Own w' base e k s' (rows ++ news) → w.grownBy w' s.blk → (s'.blk = s.blk ∨ s'.blk = some w.heap.size) → K (a.put o.dst (.slice s'.a (n + m) s'.cap)) w') : o.wp P a w K Q := by
  subst hn hm
  exact wp_append_rows x y t ho he hx h hy rfl hs hlen hbase hK
theorem own_below {W w w' : World} {E : TypeId} {k : Nat} {s : Sl} {rows : List (Array Value)} (h : Own w W.heap.size E k s rows) (hb : Below W.heap.size W w) (hg : w.grownBy w' s.blk) : Below W.heap.size W w' := hb.grown hg hb.size (fun _ e => (h.base e).1)
theorem SrcRows.later {w w' : World} {k : Nat} {A : Option Addr} {rows : List (Array Value)} (h : SrcRows w k A rows) (hb : Below w.heap.size w w') : SrcRows w' k A rows :=
  ⟨h.size, h.one, fun i hi => by obtain ⟨b, o, h1, h2⟩ := h.at_ i hi; exact ⟨b, o, h1, by rw [row?_of_block (hb.block b (row?_lt h2))]; exact h2⟩⟩
/-- Rows that are principals in memory, one for one. -/
structure RowsOf (w : World) (rows : List (Array Value)) (l : List Prin) : Prop where
  len : rows.length = l.length
  at_ : ∀ i (hi : i < rows.length), ∃ p s, l[i]? = some p ∧ rows[i] = prinC s p ∧ PrinAt w s p
theorem RowsOf.nil (w : World) : RowsOf w [] [] := ⟨rfl, fun _ hi => absurd hi (Nat.not_lt_zero _)⟩
theorem RowsOf.append {w : World} {r1 r2 : List (Array Value)} {l1 l2 : List Prin} (h1 : RowsOf w r1 l1) (h2 : RowsOf w r2 l2) : RowsOf w (r1 ++ r2) (l1 ++ l2) := by
  refine ⟨by simp [h1.len, h2.len], fun i hi => ?_⟩
  by_cases hlt : i < r1.length
  · obtain ⟨p, s, e1, e2, e3⟩ := h1.at_ i hlt
    exact ⟨p, s, by rw [List.getElem?_append_left (by have := h1.len; omega)]; exact e1, by rw [List.getElem_append_left hlt]; exact e2, e3⟩
  · obtain ⟨p, s, e1, e2, e3⟩ := h2.at_ (i - r1.length) (by simp at hi; omega)
    exact ⟨p, s, by rw [List.getElem?_append_right (by have := h1.len; omega), ← h1.len]; exact e1, by rw [List.getElem_append_right (by omega)]; exact e2, e3⟩
theorem RowsOf.later {w w' : World} {r : List (Array Value)} {l : List Prin} (h : RowsOf w r l) (hb : Below w.heap.size w w') : RowsOf w' r l :=
  ⟨h.len, fun i hi => by obtain ⟨p, s, e1, e2, e3⟩ := h.at_ i hi; exact ⟨p, s, e1, e2, e3.later hb⟩⟩
theorem RowsOf.prins {w : World} {base : Nat} {e : TypeId} {s : Sl} {r : List (Array Value)} {l : List Prin} (h : RowsOf w r l) (ho : Own w base e 2 s r) (hl : l.length ≤ lim) : PrinsAt w s.a l :=
  RowsAt.of_own ho h.len hl h.at_
def nameP (p : Prin) : Prop := p.parts.length ≤ 8 ∧ p.realm.size ≤ 60 ∧ ∀ j (h : j < p.parts.length), p.parts[j].size ≤ 60
structure FineU (n : Prin) (d : Entry) (q : Policy) (pn : ByteArray) : Prop where
  count : 2 + d.aliases.length + d.targets.length + d.delegates.length ≤ 14
  keys : d.keys.length ≤ 4
  policy : d.policy.size ≤ 60
  history : d.history.length ≤ 20
  pname : pn.size ≤ 60
  pol : q.name.size ≤ 60
  names : ∀ x ∈ [n, d.name] ++ d.aliases ++ d.targets ++ d.delegates, nameP x
  sets : ∀ x ∈ d.keys, x.keys.length ≤ 6 ∧ x.salt.size ≤ 300
theorem two_cells (s t : Sl) (n p : Prin) : Array.foldl (fun cs (x : Value × Nat) => cs.setIfInBounds (2 + x.snd) x.fst) (Array.foldl (fun cs (x : Value × Nat) => cs.setIfInBounds x.snd x.fst)
    #[Value.slice none 0 0, Value.string ⟨#[]⟩, Value.slice none 0 0, Value.string ⟨#[]⟩] (prinC s n).zipIdx 0 2) (prinC t p).zipIdx 0 2 = prinC s n ++ prinC t p := by kernel_rfl
/-- A slice just made, with two rows. -/
theorem Own.two (w : World) (c0 c1 : Array Value) (t : TypeId) (k : Nat) (h0 : c0.size = k) (h1 : c1.size = k) : Own (w.alloc (.cells (c0 ++ c1) t)) w.heap.size t k ⟨some ⟨w.heap.size, 0, none⟩, 2⟩ [c0, c1] := by
  refine ⟨⟨by simp [flat, h0, h1]; omega, .inr ⟨w.heap.size, 2, c0 ++ c1, rfl, Nat.le_refl _, World.alloc_heap_new w _, Nat.le_refl _, by unfold maxLen; omega, by simp [h0, h1]; omega, ?_⟩⟩, by simp [h0, h1]⟩
  simp only [flat, List.flatMap_cons, List.flatMap_nil, List.append_nil, Array.toList_append]
  exact List.take_of_length_le (by simp [h0, h1]; omega)
end Go.WW
namespace Go.Proofs.YtgmoeigmcdpkoaaGreatDoor
open Go.RowKit Go.WW
theorem elemPrin : ElemOk Tryz.prog 26 25 2 40 := ElemOk.of Tryz.underlying26 (by kernel_rfl)
set_option maxRecDepth 100000 in
set_option maxHeartbeats 4000000 in
theorem large_c (i t m k : Int) (s : Sl) (n : Prin) (r : ERaw) (d : Entry) (q : Policy) (pn : ByteArray) (f a b : Int) (w : World) (hn : PrinAt w s n) (he : EntAt w r d) (hq : q.name.size ≤ lim) (hp : pn.size ≤ lim) :
    Calls Tryz.prog 4 #[.agg (updC i t m k s n r d q pn f a b)] w fun e w' => e = .returned (.bool (boolOf (¬ FineU n d q pn))) ∧ Below w.heap.size w w' := by
  have nA : d.aliases.length ≤ 4294967000 := he.aliases.1
  have nT : d.targets.length ≤ 4294967000 := he.targets.1
  have nD : d.delegates.length ≤ 4294967000 := he.delegates.1
  have nK : d.keys.length ≤ 4294967000 := he.keys.1
  have nP : d.policy.size ≤ 4294967000 := he.policy
  have nH : d.history.length ≤ 4294967000 := he.history.1
  have nQ : q.name.size ≤ 4294967000 := hq
  have nN : pn.size ≤ 4294967000 := hp
  obtain ⟨rA, lA, sA, qA⟩ := RowsAt.src he.aliases prinR_ok
  obtain ⟨rT, lT, sT, qT⟩ := RowsAt.src he.targets prinR_ok
  obtain ⟨rD, lD, sD, qD⟩ := RowsAt.src he.delegates prinR_ok
  have LA := Lib.hid lA
  have LT := Lib.hid lT
  have LD := Lib.hid lD
  have QA := Lib.hid qA
  have QT := Lib.hid qT
  have QD := Lib.hid qD
  have SA := Lib.hid sA
  have ST := Lib.hid sT
  have SD := Lib.hid sD
  clear lA lT lD qA qT qD sA sT sD
  have hB0 : Below w.heap.size w (w.alloc (.cells (updC i t m k s n r d q pn f a b) 36)) := below_box _ _
  obtain ⟨W0, hW0⟩ : ∃ W0, W0 = (w.alloc (.cells (updC i t m k s n r d q pn f a b) 36)).alloc (.cells (entC r d) 32) := ⟨_, rfl⟩
  have hB : Below w.heap.size w W0 := by rw [hW0]; exact hB0.alloc (by simp) _
  go_enter Tryz.func4, Tryz.ntmps4
  go_wp2_with fail
  refine wp_region_since (Below.refl _ ((w.alloc (.cells (updC i t m k s n r d q pn f a b) 36)).alloc (.cells (entC r d) 32))) (by kernel_rfl) (by kernel_rfl) ?_
  intro w1 hb1
  obtain ⟨hcc, hff, hrr⟩ := bcell hb1
  have hsz : w.heap.size + 1 < w1.heap.size := by have := hb1.size; simp at this; omega
  repeat (first | (refine text_skip (by rfl) ?_) | (refine text_look (by rfl) (by rfl) (fun K hK => ?_); go_big_quiet_op; refine hK _ ?_; clear hK K))
  refine text_act (by rfl) (by rfl) (fun K hK => ?_)
  go_wp2_with fail
  rw [two_cells]
  have hb2 := below_new hb1 (.cells (prinC s n ++ prinC r.parts d.name) 25)
  rw [← hW0] at hb1 hb2
  have hown : Go.WW.Own (w1.alloc (.cells (prinC s n ++ prinC r.parts d.name) 25)) W0.heap.size 25 2 ⟨some ⟨w1.heap.size, 0, none⟩, 2⟩ [prinC s n, prinC r.parts d.name] := by
    have h := Own.two w1 (prinC s n) (prinC r.parts d.name) 25 2 (prinC_size _ _) (prinC_size _ _)
    exact ⟨⟨h.own.1, h.own.2.imp id fun ⟨g, cap, cur, h1, h2, h3⟩ => ⟨g, cap, cur, h1, Nat.le_trans hb1.size h2, h3⟩⟩, h.size⟩
  rw [← hW0] at hK
  refine hK _ _ (since_of hb2) ?_
  clear hK K
  repeat (first | (refine text_skip (by rfl) ?_) | (refine text_look (by rfl) (by rfl) (fun K hK => ?_); go_big_quiet_op; refine hK _ ?_; clear hK K))
  refine text_act (by rfl) (by rfl) (fun K hK => ?_)
  refine wp_append_n (.tmp 14) (.tmp 16) _ rfl elemPrin (n := 2) (s := ⟨some ⟨w1.heap.size, 0, none⟩, 2⟩) rfl rfl hown rfl LA.out.symm (SA.out.later (below_step hB hb2)) (by rw [LA.out]; simp; omega) (by have := hb2.size; exact this) ?_
  intro s3 w3 hown3 hg3 hat3
  have hb3 := own_below hown hb2 hg3
  go_wp2_with fail
  refine hK _ _ (since_of hb3) ?_
  clear hK K
  repeat (first | (refine text_skip (by rfl) ?_) | (refine text_look (by rfl) (by rfl) (fun K hK => ?_); go_big_quiet_op; refine hK _ ?_; clear hK K))
  refine text_act (by rfl) (by rfl) (fun K hK => ?_)
  refine wp_append_n (.tmp 17) (.tmp 19) _ rfl elemPrin (n := 2 + d.aliases.length) (s := s3) rfl (by have := LA.out; simp [this]; omega) hown3 rfl LT.out.symm (ST.out.later (below_step hB hb3)) (by have := LA.out; rw [LT.out]; simp [this]; omega) (by have := hb3.size; exact this) ?_
  intro s4 w4 hown4 hg4 hat4
  have hb4 := own_below hown3 hb3 hg4
  go_wp2_with fail
  refine hK _ _ (since_of hb4) ?_
  clear hK K
  repeat (first | (refine text_skip (by rfl) ?_) | (refine text_look (by rfl) (by rfl) (fun K hK => ?_); go_big_quiet_op; refine hK _ ?_; clear hK K))
  refine text_act (by rfl) (by rfl) (fun K hK => ?_)
  refine wp_append_n (.tmp 20) (.tmp 22) _ rfl elemPrin (n := 2 + d.aliases.length + d.targets.length) (s := s4) rfl (by have := LA.out; have := LT.out; simp [*]; omega) hown4 rfl LD.out.symm (SD.out.later (below_step hB hb4)) (by have h1 := LA.out; have h2 := LT.out; rw [LD.out]; simp [h1, h2]; omega) (by have := hb4.size; exact this) ?_
  intro s5 w5 hown5 hg5 hat5
  have hb5 := own_below hown4 hb4 hg5
  go_wp2_with fail
  refine hK _ _ (since_of hb5) ?_
  clear hK K
  repeat (first | (refine text_skip (by rfl) ?_) | (refine text_look (by rfl) (by rfl) (fun K hK => ?_); go_big_quiet_op; refine hK _ ?_; clear hK K))
  refine text_nil ?_
  have hB5 := below_step hB hb5
  obtain ⟨L, hL⟩ : ∃ L, L = [n, d.name] ++ d.aliases ++ d.targets ++ d.delegates := ⟨_, rfl⟩
  have hLn : 2 + d.aliases.length + d.targets.length + d.delegates.length = L.length := by rw [hL]; simp; omega
  rw [hLn]
  by_cases hbig : 14 < L.length
  · have hbig' : (14 : Int) < (L.length : Int) := by omega
    have HN := Lib.hid (boolOf_t (show ¬ FineU n d q pn from fun h => by have := h.count; omega))
    go_wp2_with fail
    go_ret
    exact ⟨by rw [HN.out]; rfl, hB5⟩
  have hbig' : ¬ (14 : Int) < (L.length : Int) := by omega
  have HP := Lib.hid (show PrinsAt w5 s5.a L by
    have h0 : RowsOf w [prinC s n, prinC r.parts d.name] [n, d.name] := ⟨rfl, fun i hi => by
      match i, hi with
      | 0, _ => exact ⟨n, s, rfl, rfl, hn⟩
      | 1, _ => exact ⟨d.name, r.parts, rfl, rfl, he.name⟩⟩
    have h := ((h0.append ⟨LA.out, QA.out⟩).append ⟨LT.out, QT.out⟩).append ⟨LD.out, QD.out⟩
    rw [hL]
    exact (h.later hB5).prins hown5 (by unfold lim; simp; omega))
  have HL := Lib.hid hL
  have HLn := Lib.hid hLn
  rw [hW0] at hb5
  clear hL hLn hcc hff hrr hsz hown hown3 hown4 hown5 hg3 hg4 hg5 hat3 hat4 hat5
  obtain ⟨hcc, hff, hrr⟩ := bcell hb5
  have hsz : w.heap.size + 1 < w5.heap.size := by have := hb5.size; simp at this; omega
  have hkeys := Lib.hid (he.keys.later hB5)
  go_wp2_with fail
  all_goals first
    | (go_ret; exact ⟨by rw [boolOf_t (fun h : FineU n d q pn => by have h1 := h.count; have h2 := h.keys; have h3 := h.policy; have h4 := h.history; have h5 := h.pname; have h6 := h.pol; have h7 := HLn.out; omega)]; rfl, hB5⟩)
    | skip
  have HC := Lib.hid (show L.length ≤ 14 ∧ d.keys.length ≤ 4 ∧ d.policy.size ≤ 60 ∧ d.history.length ≤ 20 ∧ pn.size ≤ 60 ∧ q.name.size ≤ 60 from ⟨by omega, by omega, by omega, by omega, by omega, by omega⟩)
  go_loop [5] (fun i => ∃ k : Nat, k ≤ L.length ∧ i = .int .i64 k ∧ Hid (∀ j (h : j < L.length), j < k → nameP L[j])) (fun i => L.length - (intOf i).toNat)
  case atStart => exact ⟨0, Nat.zero_le _, rfl, fun j h hj => absurd hj (Nat.not_lt_zero _)⟩
  case round =>
    obtain ⟨k, hk, rfl, hall⟩ := hrel
    by_cases hlt : k < L.length
    · obtain ⟨g, o, t, ha, hrow, hpa⟩ := HP.out.get k hlt
      have hltI : (k : Int) < (L.length : Int) := by omega
      have hgb7 : g < w5.heap.size := row?_lt hrow
      have hq0 : w5.cell? ⟨g, o + k * 2, none⟩ = some (.slice t.a L[k].parts.length t.cap) := by have := row?_cell hrow 0 (by omega); simpa [go_sem] using this
      have hq1 : w5.cell? ⟨g, o + k * 2 + 1, none⟩ = some (.string L[k].realm) := by have := row?_cell hrow 1 (by omega); simpa [go_sem] using this
      have hpl : L[k].parts.length ≤ 4294967000 := hpa.1.1
      have hpr : L[k].realm.size ≤ 4294967000 := hpa.2
      obtain ⟨s5a, s5c⟩ := s5
      dsimp only at ha
      subst ha
      have HNO := Lib.hid (show ¬ nameP L[k] → boolOf (¬ FineU n d q pn) = true from fun h => boolOf_t (fun hh => h (hh.names _ (by rw [← HL.out]; exact List.getElem_mem hlt))))
      by_cases hz1 : L[k].parts.length ≤ 8
      case neg =>
        go_wp2_with fail
        go_ret
        exact ⟨by rw [HNO.out (fun h => hz1 h.1)]; rfl, hB5⟩
      by_cases hz2 : L[k].realm.size ≤ 60
      case neg =>
        go_wp2_with fail
        go_ret
        exact ⟨by rw [HNO.out (fun h => hz2 h.2.1)]; rfl, hB5⟩
      go_wp2_with fail
      go_loop [6] (fun i => ∃ j : Nat, j ≤ L[k].parts.length ∧ i = .int .i64 j ∧ Hid (∀ l (h : l < L[k].parts.length), l < j → L[k].parts[l].size ≤ 60)) (fun i => L[k].parts.length - (intOf i).toNat)
      case atStart => exact ⟨0, Nat.zero_le _, rfl, fun j h hj => absurd hj (Nat.not_lt_zero _)⟩
      case round =>
        obtain ⟨j, hj, rfl, hby⟩ := hrel
        by_cases hjt : j < L[k].parts.length
        · obtain ⟨b2, o2, ha2, hc2, hs2⟩ := hpa.1.get j hjt
          have hs2' : L[k].parts[j].size ≤ 4294967000 := hs2
          have hgb2 : b2 < w5.heap.size := World.block_lt_of_cell? w5 _ hc2
          rw [ha2] at hq0
          go_wp2_with fail
          all_goals first
            | (go_ret; exact ⟨by rw [HNO.out (fun h => by have := h.2.2 j hjt; omega)]; rfl, hB5⟩)
            | (go_round
               case rel => exact ⟨j + 1, by omega, by go_num, fun l h hl => by
                 rcases Nat.lt_or_ge l j with h1 | h1
                 · exact hby.out l h h1
                 · obtain rfl : l = j := by omega
                   omega⟩
               case measure => simp [intOf]; omega)
        · have HS := Lib.hid (show ∀ l (h : l < L.length), l < k + 1 → nameP L[l] from fun l h hl => by
            rcases Nat.lt_or_ge l k with h1 | h1
            · exact hall.out l h h1
            · obtain rfl : l = k := by omega
              exact ⟨hz1, hz2, fun m hm => hby.out m hm (by omega)⟩)
          go_wp2_with fail
          go_round
          case rel => exact ⟨k + 1, by omega, by go_num, HS.out⟩
          case measure => simp [intOf]; omega
    · have hltI : ¬ (k : Int) < (L.length : Int) := by omega
      have HA := Lib.hid (show ∀ x ∈ [n, d.name] ++ d.aliases ++ d.targets ++ d.delegates, nameP x by
        intro x hx
        rw [← HL.out] at hx
        obtain ⟨i, hi, rfl⟩ := List.mem_iff_getElem.1 hx
        exact hall.out i hi (by omega))
      go_wp2_with fail
      go_loop [7] (fun i => ∃ k : Nat, k ≤ d.keys.length ∧ i = .int .i64 k ∧ Hid (∀ j (h : j < d.keys.length), j < k → d.keys[j].keys.length ≤ 6 ∧ d.keys[j].salt.size ≤ 300)) (fun i => d.keys.length - (intOf i).toNat)
      case atStart => exact ⟨0, Nat.zero_le _, rfl, fun j h hj => absurd hj (Nat.not_lt_zero _)⟩
      case round =>
        obtain ⟨j, hj, rfl, hset⟩ := hrel
        by_cases hjt : j < d.keys.length
        · obtain ⟨b2, o2, s2, ha2, hq2, hs2⟩ := hkeys.out.get j hjt
          have hgb2 := row?_lt hq2
          have hy1 : w5.cell? ⟨b2, o2 + j * 5 + 1, none⟩ = some (.slice s2.a d.keys[j].keys.length s2.cap) := by have := row?_cell hq2 1 (by omega); simpa [go_sem] using this
          have hy2 : w5.cell? ⟨b2, o2 + j * 5 + 2, none⟩ = some (.string d.keys[j].salt) := by have := row?_cell hq2 2 (by omega); simpa [go_sem] using this
          have hkl : d.keys[j].keys.length ≤ 4294967000 := hs2.1.1
          have hsl : d.keys[j].salt.size ≤ 4294967000 := hs2.2
          have HNO := Lib.hid (show ¬ (d.keys[j].keys.length ≤ 6 ∧ d.keys[j].salt.size ≤ 300) → boolOf (¬ FineU n d q pn) = true from fun h => boolOf_t (fun hh => h (hh.sets _ (List.getElem_mem hjt))))
          by_cases hz1 : d.keys[j].keys.length ≤ 6
          case neg =>
            go_wp2_with fail
            go_ret
            exact ⟨by rw [HNO.out (fun h => hz1 h.1)]; rfl, hB5⟩
          by_cases hz2 : d.keys[j].salt.size ≤ 300
          case neg =>
            go_wp2_with fail
            go_ret
            exact ⟨by rw [HNO.out (fun h => hz2 h.2)]; rfl, hB5⟩
          go_wp2_with fail
          go_round
          case rel => exact ⟨j + 1, by omega, by go_num, fun l h hl => by
            rcases Nat.lt_or_ge l j with h1 | h1
            · exact hset.out l h h1
            · obtain rfl : l = j := by omega
              exact ⟨hz1, hz2⟩⟩
          case measure => simp [intOf]; omega
        · have HN := Lib.hid (boolOf_f (show ¬ ¬ FineU n d q pn from fun h => h ⟨by have := HLn.out; have := HC.out.1; omega, HC.out.2.1, HC.out.2.2.1, HC.out.2.2.2.1, HC.out.2.2.2.2.1, HC.out.2.2.2.2.2, HA.out, fun x hx => by
            obtain ⟨i, hi, rfl⟩ := List.mem_iff_getElem.1 hx
            exact hset.out i hi (by omega)⟩))
          go_wp2_with fail
          go_ret
          exact ⟨by rw [HN.out]; rfl, hB5⟩
end Go.Proofs.YtgmoeigmcdpkoaaGreatDoor
/- An update as data. -/
namespace Go.WW
open Go.RowKit
structure UpdD where
  i : Int
  t : Int
  m : Int
  k : Int
  f : Int
  a : Int
  b : Int
  n : Prin
  d : Entry
  q : Policy
  pn : ByteArray
def updOf (x : UpdD) (s : Sl) (r : ERaw) : Array Value := updC x.i x.t x.m x.k s x.n r x.d x.q x.pn x.f x.a x.b
def UpdAt (w : World) (s : Sl) (r : ERaw) (x : UpdD) : Prop := PrinAt w s x.n ∧ EntAt w r x.d ∧ x.q.name.size ≤ lim ∧ x.pn.size ≤ lim
theorem UpdAt.later {w w' : World} {s : Sl} {r : ERaw} {x : UpdD} (h : UpdAt w s r x) (hb : Below w.heap.size w w') : UpdAt w' s r x := ⟨h.1.later hb, h.2.1.later hb, h.2.2.1, h.2.2.2⟩
end Go.WW
