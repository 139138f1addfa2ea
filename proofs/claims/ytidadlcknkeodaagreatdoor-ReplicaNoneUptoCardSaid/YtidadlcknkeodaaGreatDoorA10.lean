/- A part of the proof. -/
import Derived.Test.YtidadlcknkeodaaGreatDoorA09
import Derived.Test.YtidadlcknkeodaaGreatDoorA07
import Derived.Test.YtidadlcknkeodaaGreatDoorA08
import Derived.Test.YtidadlcknkeodaaGreatDoorA06
import Derived.Scope
import Derived.Deep.RegionHeld2
import Derived.WalkMore
import Derived.Test.YtidadlcknkeodaaGreatDoorProg
import Derived.Shelf.Small.Strs
set_option maxRecDepth 1000000
set_option maxHeartbeats 4000000
/- The answers of nil and of zero primaries and replicas, the others. -/
namespace Go.Proofs.YtidadlcknkeodaaGreatDoor
open Go.RowKit Go.WW Go.Mini Go.MiniT
def askC : Array Value := #[.string ⟨#[]⟩, .int .i64 0, .slice none 0 0]
def ansC : Array Value := #[.int .i64 0, .int .i64 0, .slice none 0 0, .slice none 0 0, .slice none 0 0]
theorem execOp_buildAsk0 (ρ : Operand → Value) (dst : Option Tmp) (ty : TypeId) (pos : String) (after : Array Edge) (guard : Option (Nat × Bool)) :
    execOp ρ { dst, op := .build 71 #[], type := ty, pos, after, guard } = structBuild 71 #[] := by simp [execOp, structBuild]
theorem buildAsk0 (w : World) : (structBuild 71 #[]).run Tryz.prog w = .ok (.value (.agg askC)) w := by kernel_rfl
theorem execOp_buildAns0 (ρ : Operand → Value) (dst : Option Tmp) (ty : TypeId) (pos : String) (after : Array Edge) (guard : Option (Nat × Bool)) :
    execOp ρ { dst, op := .build 67 #[], type := ty, pos, after, guard } = structBuild 67 #[] := by simp [execOp, structBuild]
theorem buildAns0 (w : World) : (structBuild 67 #[]).run Tryz.prog w = .ok (.value (.agg ansC)) w := by kernel_rfl
attribute [go_sem] buildAsk0 buildAns0
attribute [go_sem ↓] execOp_buildAsk0 execOp_buildAns0
theorem storeAsk (w : World) (b o : Nat) (cs : Array Value) (hn : cs.size = 3) (h1 : allOne cs = true) : (structStore 71 (.pointer (some ⟨b, o, none⟩)) (.agg cs)).run Tryz.prog w = storeOut Tryz.prog 71 w b o cs (canPut w b o 3) := run_structStore (by kernel_rfl) w b o cs hn h1
theorem execOp_storeAsk (ρ : Operand → Value) (dst : Option Tmp) (x y : Operand) (ty : TypeId) (pos : String) (after : Array Edge) (guard : Option (Nat × Bool)) : execOp ρ { dst, op := .store 71 x y, type := ty, pos, after, guard } = structStore 71 (ρ x) (ρ y) := rfl
theorem storeAns (w : World) (b o : Nat) (cs : Array Value) (hn : cs.size = 5) (h1 : allOne cs = true) : (structStore 67 (.pointer (some ⟨b, o, none⟩)) (.agg cs)).run Tryz.prog w = storeOut Tryz.prog 67 w b o cs (canPut w b o 5) := run_structStore (by kernel_rfl) w b o cs hn h1
theorem execOp_storeAns (ρ : Operand → Value) (dst : Option Tmp) (x y : Operand) (ty : TypeId) (pos : String) (after : Array Edge) (guard : Option (Nat × Bool)) : execOp ρ { dst, op := .store 67 x y, type := ty, pos, after, guard } = structStore 67 (ρ x) (ρ y) := rfl
attribute [go_sem] storeAsk storeAns
attribute [go_sem ↓] execOp_storeAsk execOp_storeAns
theorem askC_size : askC.size = 3 := rfl
theorem ansC_size : ansC.size = 5 := rfl
theorem askC_one : allOne askC = true := by simp [allOne, askC, Value.oneCell']
theorem ansC_one : allOne ansC = true := by simp [allOne, ansC, Value.oneCell']
theorem storeAsk0 (w : World) (b o : Nat) : (structStore 71 (.pointer (some ⟨b, o, none⟩)) (.agg askC)).run Tryz.prog w = storeOut Tryz.prog 71 w b o askC (canPut w b o 3) := storeAsk w b o _ askC_size askC_one
theorem storeAns0 (w : World) (b o : Nat) : (structStore 67 (.pointer (some ⟨b, o, none⟩)) (.agg ansC)).run Tryz.prog w = storeOut Tryz.prog 67 w b o ansC (canPut w b o 5) := storeAns w b o _ ansC_size ansC_one
attribute [go_sem] storeAsk0 storeAns0
attribute [go_sem] askC_size ansC_size askC_one ansC_one
theorem append_no (v : Value) (U : Array Value) (w : World) (h : PrimNo w v) : Calls Tryz.prog 11 #[v, .agg U] w fun e w' => e = .returned (.int .i64 1) ∧ Below w.heap.size w w' := by
  have hb := below_new (Below.refl _ w) (.cells U 36)
  go_enter Tryz.func11, Tryz.ntmps11
  go_wp2_with fail
  refine (primNone_c v _ (h.later hb)).mono ?_
  rintro z w' ⟨rfl, rfl⟩
  dsimp only
  go_wp2_with fail
  go_ret
  exact ⟨rfl, hb⟩
theorem ask_no (v : Value) (w : World) (h : RepNo w v) : Calls Tryz.prog 14 #[v] w fun e w' => e = .returned (.agg askC) ∧ Below w.heap.size w w' := by
  have hb := below_new (Below.refl _ w) (.cells askC 71)
  have hz : canPut (w.alloc (.cells askC 71)) w.heap.size 0 3 = true := by simp [go_sem, askC]
  have hrow : row? (putRow (w.alloc (.cells askC 71)) w.heap.size 0 askC) w.heap.size 0 3 = some askC := row?_putRow_whole (w := w.alloc (.cells askC 71)) rfl hz
  have hR := repNone_c v _ (h.later hb)
  unfold askC at hz hR
  have HR := Lib.hid hR
  clear hR
  go_enter Tryz.func14, Tryz.ntmps14
  go_wp2_with fail
  refine HR.out.mono ?_
  rintro z w' ⟨rfl, rfl⟩
  dsimp only
  go_wp2_with fail
  exact bodyPost_ret (results_row (by rfl) Tryz.underlying71 rfl (by kernel_rfl) rfl hrow) rfl ⟨rfl, Go.WW.Below.putRow hb (Nat.le_refl _)⟩
theorem answer_no (v : Value) (A : Array Value) (w : World) (h : PrimNo w v) : Calls Tryz.prog 10 #[v, .agg A] w fun e w' => e = .returned (.tuple #[.agg ansC, .int .i64 1]) ∧ Below w.heap.size w w' := by
  obtain ⟨a, rfl⟩ : ∃ a, v = .pointer a := by rcases h with rfl | ⟨b, rfl, -⟩ <;> exact ⟨_, rfl⟩
  obtain ⟨W, hW⟩ : ∃ W, W = (w.alloc (.cells #[.pointer a] 39)).alloc (.cells A 71) := ⟨_, rfl⟩
  have hbW : Below w.heap.size w W := by rw [hW]; exact below_new (below_new (Below.refl _ w) _) _
  have hs : W.heap.size = w.heap.size + 1 + 1 := by rw [hW]; simp
  have hb := below_new hbW (.cells ansC 67)
  have hz : canPut (W.alloc (.cells ansC 67)) (w.heap.size + 1 + 1) 0 5 = true := canPut_alloc_new hs.symm (by rw [ansC_size]; omega)
  have hrow : row? (putRow (W.alloc (.cells ansC 67)) (w.heap.size + 1 + 1) 0 ansC) (w.heap.size + 1 + 1) 0 5 = some ansC := row?_putRow_whole (w := W.alloc (.cells ansC 67)) ansC_size hz
  have hv : (W.alloc (.cells ansC 67)).cell? ⟨w.heap.size, 0, none⟩ = some (.pointer a) := by
    refine cell_past ?_ _
    rw [hW]
    refine cell_past ?_ _
    rw [World.cell?_alloc_new]; rfl
  have hR := primNone_c _ _ (h.later hb)
  rw [hW] at hz hR hv hrow hb
  unfold ansC at hz hR hv
  have HR := Lib.hid hR
  clear hR
  go_enter Tryz.func10, Tryz.ntmps10
  go_wp2_with fail
  refine HR.out.mono ?_
  rintro z w' ⟨rfl, rfl⟩
  dsimp only
  go_wp2_with fail
  exact bodyPost_ret (results_row2 (by rfl) Tryz.underlying67 rfl (by kernel_rfl) rfl hrow) rfl ⟨rfl, Go.WW.Below.putRow hb (by omega)⟩
theorem take_no (v : Value) (w : World) (h : RepNo w v) : Calls Tryz.prog 15 #[v, .agg ansC] w fun e w' => e = .returned (.int .i64 1) ∧ Below w.heap.size w w' := by
  have hb := below_new (below_new (Below.refl _ w) (.cells ansC 67)) (.cells #[.int .i64 0] 40)
  have hR := repNone_c v _ (h.later hb)
  unfold ansC at hR
  have HR := Lib.hid hR
  clear hR
  go_enter_defers Tryz.func15, Tryz.ntmps15
  go_wp2_with fail
  refine HR.out.mono ?_
  rintro z w' ⟨rfl, rfl⟩
  dsimp only
  go_wp2_with fail
  simp [bodyPostD, Leaves, results, Tryz.results15, go_sem]
  exact below_new (below_new (Below.refl _ w) _) _
end Go.Proofs.YtidadlcknkeodaaGreatDoor
/- An update's cells. Printed by wip/src/genupd.py. -/
namespace Go.WW
open Go.RowKit
def updC (i t m k : Int) (s : Sl) (n : Prin) (r : ERaw) (d : Entry) (q : Policy) (pn : ByteArray) (f a b : Int) : Array Value := #[.int .i64 i, .int .i64 t, .int .i64 m, .int .i64 k, .slice s.a n.parts.length s.cap, .string n.realm, .slice r.parts.a d.name.parts.length r.parts.cap, .string d.name.realm, .slice r.aliases.a d.aliases.length r.aliases.cap, .int .u32 d.attrs, .int .i64 d.master, .slice r.keys.a d.keys.length r.keys.cap, .string d.policy, .int .i64 d.expires, .int .i64 d.pwExpires, .int .i64 d.maxLife, .int .i64 d.maxRenew, .int .i64 d.fails, .int .i64 d.lastFail, .int .i64 d.lastSuccess, .slice r.targets.a d.targets.length r.targets.cap, .slice r.delegates.a d.delegates.length r.delegates.cap, .slice r.history.a d.history.length r.history.cap, .string q.name, .int .i64 q.length, .int .i64 q.classes, .int .i64 q.distinct, .int .i64 q.history, .int .i64 q.minAge, .int .i64 q.maxAge, .int .i64 q.fails, .int .i64 q.window, .int .i64 q.lock, .string pn, .int .i64 f, .int .i64 a, .int .i64 b]
theorem updC_size (i t m k : Int) (s : Sl) (n : Prin) (r : ERaw) (d : Entry) (q : Policy) (pn : ByteArray) (f a b : Int) : (updC i t m k s n r d q pn f a b).size = 37 := by simp [updC]
theorem updC_one (i t m k : Int) (s : Sl) (n : Prin) (r : ERaw) (d : Entry) (q : Policy) (pn : ByteArray) (f a b : Int) : allOne (updC i t m k s n r d q pn f a b) = true := by simp [allOne, updC, Value.oneCell']
theorem updC_g23 (i t m k : Int) (s : Sl) (n : Prin) (r : ERaw) (d : Entry) (q : Policy) (pn : ByteArray) (f a b : Int) (h : 23 < (updC i t m k s n r d q pn f a b).size) : (updC i t m k s n r d q pn f a b)[23]'h = .string q.name := by simp [updC]
theorem updC_g33 (i t m k : Int) (s : Sl) (n : Prin) (r : ERaw) (d : Entry) (q : Policy) (pn : ByteArray) (f a b : Int) (h : 33 < (updC i t m k s n r d q pn f a b).size) : (updC i t m k s n r d q pn f a b)[33]'h = .string pn := by simp [updC]
theorem updC_prin (i t m k : Int) (s : Sl) (n : Prin) (r : ERaw) (d : Entry) (q : Policy) (pn : ByteArray) (f a b : Int) : subRow (updC i t m k s n r d q pn f a b) 4 2 = some (prinC s n) := by kernel_rfl
theorem updC_ent (i t m k : Int) (s : Sl) (n : Prin) (r : ERaw) (d : Entry) (q : Policy) (pn : ByteArray) (f a b : Int) : subRow (updC i t m k s n r d q pn f a b) 6 17 = some (entC r d) := by kernel_rfl
attribute [go_sem] updC_size updC_one updC_g23 updC_g33 updC_prin updC_ent
end Go.WW
namespace Go.Proofs.YtidadlcknkeodaaGreatDoor
open Go.RowKit Go.WW
theorem loadUpdate (w : World) (b o : Nat) : (structLoad 36 (.pointer (some ⟨b, o, none⟩))).run Tryz.prog w = rowOut Tryz.prog 36 w b o (row? w b o 37) := run_structLoad Tryz.underlying36 rfl (by kernel_rfl) w b o
theorem execOp_loadUpdate (ρ : Operand → Value) (dst : Option Tmp) (x : Operand) (ty : TypeId) (pos : String) (after : Array Edge) (guard : Option (Nat × Bool)) : execOp ρ { dst, op := .load 36 x, type := ty, pos, after, guard } = structLoad 36 (ρ x) := rfl
attribute [go_sem] loadUpdate
attribute [go_sem ↓] execOp_loadUpdate
end Go.Proofs.YtidadlcknkeodaaGreatDoor
/- law30.large. -/
namespace Go.WW
open Go.RowKit
noncomputable def boolOf (p : Prop) : Bool := @decide p (Classical.propDecidable p)
theorem boolOf_t {p : Prop} (h : p) : boolOf p = true := @decide_eq_true p (Classical.propDecidable p) h
theorem boolOf_f {p : Prop} (h : ¬ p) : boolOf p = false := @decide_eq_false p (Classical.propDecidable p) h
theorem below_box {w : World} (cs : Array Value) (t : TypeId) : Below w.heap.size w (w.alloc (.cells cs t)) := (Below.refl _ _).alloc (Nat.le_refl _) _
theorem wp_append_n {P : Program} {o : Oper} {a : Act} {w : World} {K : Act → World → Prop} {Q : Exit → Act → World → Prop} (x y : Operand) (t : TypeId) (ho : o.op = .call { callee := .builtin .append, args := #[x, y], argTypes := #[t, t] })
    {e : TypeId} {k bytes : Nat} (he : ElemOk P t e k bytes) {base : Nat} {s : Sl} {n : Nat} {rows : List (Array Value)} (hx : a.eval x = .slice s.a n s.cap) (hn : n = rows.length) (h : Own w base e k s rows) {A : Option Addr} {news : List (Array Value)} {m c : Nat}
    (hy : a.eval y = .slice A m c) (hm : m = news.length) (hs : SrcRows w k A news) (hlen : (rows.length + news.length) * (bytes + 1) ≤ 140737488355328) (hbase : base ≤ w.heap.size)
    (hK : ∀ (s' : Sl) w', Own w' base e k s' (rows ++ news) → w.grownBy w' s.blk → (s'.blk = s.blk ∨ s'.blk = some w.heap.size) → K (a.put o.dst (.slice s'.a (n + m) s'.cap)) w') : o.wp P a w K Q := by
  subst hn hm
  exact wp_append_rows x y t ho he hx h hy rfl hs hlen hbase hK
theorem own_below {W w w' : World} {E : TypeId} {k : Nat} {s : Sl} {rows : List (Array Value)} (h : Own w W.heap.size E k s rows) (hb : Below W.heap.size W w) (hg : w.grownBy w' s.blk) : Below W.heap.size W w' := hb.grown hg hb.size (fun _ e => (h.base e).1)
structure RowsOf (w : World) (rows : List (Array Value)) (l : List Prin) : Prop where
  len : rows.length = l.length
  at_ : ∀ i (hi : i < rows.length), ∃ p s, l[i]? = some p ∧ rows[i] = prinC s p ∧ PrinAt w s p
theorem RowsOf.nil (w : World) : RowsOf w [] [] := ⟨rfl, fun _ hi => absurd hi (Nat.not_lt_zero _)⟩
theorem RowsOf.append {w : World} {r1 r2 : List (Array Value)} {l1 l2 : List Prin} (h1 : RowsOf w r1 l1) (h2 : RowsOf w r2 l2) : RowsOf w (r1 ++ r2) (l1 ++ l2) := by
  refine ⟨by simp [h1.len, h2.len], fun i hi => ?_⟩
  by_cases hlt : i < r1.length
  · obtain ⟨p, s, e1, e2, e3⟩ := h1.at_ i hlt
    exact ⟨p, s, by rw [List.getElem?_append_left (by have := h1.len; omega)]; exact e1, by rw [List.getElem_append_left hlt]; exact e2, e3⟩
  · obtain ⟨p, s, e1, e2, e3⟩ := h2.at_ (i - r1.length) (by simp at hi; omega)
    exact ⟨p, s, by rw [List.getElem?_append_right (by have := h1.len; omega), ← h1.len]; exact e1, by rw [List.getElem_append_right (by omega)]; exact e2, e3⟩
theorem RowsOf.later {w w' : World} {r : List (Array Value)} {l : List Prin} (h : RowsOf w r l) (hb : Below w.heap.size w w') : RowsOf w' r l :=
  ⟨h.len, fun i hi => by obtain ⟨p, s, e1, e2, e3⟩ := h.at_ i hi; exact ⟨p, s, e1, e2, e3.later hb⟩⟩
theorem RowsOf.prins {w : World} {base : Nat} {e : TypeId} {s : Sl} {r : List (Array Value)} {l : List Prin} (h : RowsOf w r l) (ho : Own w base e 2 s r) (hl : l.length ≤ lim) : PrinsAt w s.a l :=
  RowsAt.of_own ho h.len hl h.at_
def nameU (p : Prin) : Prop := p.parts.length ≤ 8 ∧ p.realm.size ≤ 60 ∧ ∀ j (h : j < p.parts.length), p.parts[j].size ≤ 60
structure FineU (n : Prin) (d : Entry) (q : Policy) (pn : ByteArray) : Prop where
  count : 2 + d.aliases.length + d.targets.length + d.delegates.length ≤ 14
  keys : d.keys.length ≤ 4
  policy : d.policy.size ≤ 60
  history : d.history.length ≤ 20
  pname : pn.size ≤ 60
  pol : q.name.size ≤ 60
  names : ∀ x ∈ [n, d.name] ++ d.aliases ++ d.targets ++ d.delegates, nameU x
  sets : ∀ x ∈ d.keys, x.keys.length ≤ 6 ∧ x.salt.size ≤ 300
theorem two_cells (s t : Sl) (n p : Prin) : Array.foldl (fun cs (x : Value × Nat) => cs.setIfInBounds (2 + x.snd) x.fst) (Array.foldl (fun cs (x : Value × Nat) => cs.setIfInBounds x.snd x.fst)
    #[Value.slice none 0 0, Value.string ⟨#[]⟩, Value.slice none 0 0, Value.string ⟨#[]⟩] (prinC s n).zipIdx 0 2) (prinC t p).zipIdx 0 2 = prinC s n ++ prinC t p := by kernel_rfl
theorem Own.two (w : World) (c0 c1 : Array Value) (t : TypeId) (k : Nat) (h0 : c0.size = k) (h1 : c1.size = k) : Own (w.alloc (.cells (c0 ++ c1) t)) w.heap.size t k ⟨some ⟨w.heap.size, 0, none⟩, 2⟩ [c0, c1] := by
  refine ⟨⟨by simp [flat, h0, h1]; omega, .inr ⟨w.heap.size, 2, c0 ++ c1, rfl, Nat.le_refl _, World.alloc_heap_new w _, Nat.le_refl _, by unfold maxLen; omega, by simp [h0, h1]; omega, ?_⟩⟩, by simp [h0, h1]⟩
  simp only [flat, List.flatMap_cons, List.flatMap_nil, List.append_nil, Array.toList_append]
  exact List.take_of_length_le (by simp [h0, h1]; omega)
end Go.WW
namespace Go.Proofs.YtidadlcknkeodaaGreatDoor
open Go.RowKit Go.WW
theorem large_c (i t m k : Int) (s : Sl) (n : Prin) (r : ERaw) (d : Entry) (q : Policy) (pn : ByteArray) (f a b : Int) (w : World) (hn : PrinAt w s n) (he : EntAt w r d) (hq : q.name.size ≤ lim) (hp : pn.size ≤ lim) :
    Calls Tryz.prog 4 #[.agg (updC i t m k s n r d q pn f a b)] w fun e w' => e = .returned (.bool (boolOf (¬ FineU n d q pn))) ∧ Below w.heap.size w w' := by
  have nA : d.aliases.length ≤ 4294967000 := he.aliases.1
  have nT : d.targets.length ≤ 4294967000 := he.targets.1
  have nD : d.delegates.length ≤ 4294967000 := he.delegates.1
  have nK : d.keys.length ≤ 4294967000 := he.keys.1
  have nP : d.policy.size ≤ 4294967000 := he.policy
  have nH : d.history.length ≤ 4294967000 := he.history.1
  have nQ : q.name.size ≤ 4294967000 := hq
  have nN : pn.size ≤ 4294967000 := hp
  obtain ⟨rA, lA, sA, qA⟩ := RowsAt.src he.aliases prinR_ok
  obtain ⟨rT, lT, sT, qT⟩ := RowsAt.src he.targets prinR_ok
  obtain ⟨rD, lD, sD, qD⟩ := RowsAt.src he.delegates prinR_ok
  have LA := Lib.hid lA
  have LT := Lib.hid lT
  have LD := Lib.hid lD
  have QA := Lib.hid qA
  have QT := Lib.hid qT
  have QD := Lib.hid qD
  have SA := Lib.hid sA
  have ST := Lib.hid sT
  have SD := Lib.hid sD
  clear lA lT lD qA qT qD sA sT sD
  have hB0 : Below w.heap.size w (w.alloc (.cells (updC i t m k s n r d q pn f a b) 36)) := below_box _ _
  obtain ⟨W0, hW0⟩ : ∃ W0, W0 = (w.alloc (.cells (updC i t m k s n r d q pn f a b) 36)).alloc (.cells (entC r d) 32) := ⟨_, rfl⟩
  have hB : Below w.heap.size w W0 := by rw [hW0]; exact hB0.alloc (by simp) _
  go_enter Tryz.func4, Tryz.ntmps4
  go_wp2_with fail
  refine wp_region_since (Below.refl _ ((w.alloc (.cells (updC i t m k s n r d q pn f a b) 36)).alloc (.cells (entC r d) 32))) (by kernel_rfl) (by kernel_rfl) ?_
  intro w1 hb1
  obtain ⟨hcc, hff, hrr⟩ := bcell hb1
  have hsz : w.heap.size + 1 < w1.heap.size := by have := hb1.size; simp at this; omega
  repeat (first | (refine text_skip (by rfl) ?_) | (refine text_look (by rfl) (by rfl) (fun K hK => ?_); go_big_quiet_op; refine hK _ ?_; clear hK K))
  refine text_act (by rfl) (by rfl) (fun K hK => ?_)
  go_wp2_with fail
  rw [two_cells]
  have hb2 := below_new hb1 (.cells (prinC s n ++ prinC r.parts d.name) 25)
  rw [← hW0] at hb1 hb2
  have hown : Go.WW.Own (w1.alloc (.cells (prinC s n ++ prinC r.parts d.name) 25)) W0.heap.size 25 2 ⟨some ⟨w1.heap.size, 0, none⟩, 2⟩ [prinC s n, prinC r.parts d.name] := by
    have h := Own.two w1 (prinC s n) (prinC r.parts d.name) 25 2 (prinC_size _ _) (prinC_size _ _)
    exact ⟨⟨h.own.1, h.own.2.imp id fun ⟨g, cap, cur, h1, h2, h3⟩ => ⟨g, cap, cur, h1, Nat.le_trans hb1.size h2, h3⟩⟩, h.size⟩
  rw [← hW0] at hK
  refine hK _ _ (since_of hb2) ?_
  clear hK K
  repeat (first | (refine text_skip (by rfl) ?_) | (refine text_look (by rfl) (by rfl) (fun K hK => ?_); go_big_quiet_op; refine hK _ ?_; clear hK K))
  refine text_act (by rfl) (by rfl) (fun K hK => ?_)
  refine wp_append_n (.tmp 14) (.tmp 16) _ rfl elemPrin (n := 2) (s := ⟨some ⟨w1.heap.size, 0, none⟩, 2⟩) rfl rfl hown rfl LA.out.symm (SA.out.later (below_step hB hb2)) (by rw [LA.out]; simp; omega) (by have := hb2.size; exact this) ?_
  intro s3 w3 hown3 hg3 hat3
  have hb3 := own_below hown hb2 hg3
  go_wp2_with fail
  refine hK _ _ (since_of hb3) ?_
  clear hK K
  repeat (first | (refine text_skip (by rfl) ?_) | (refine text_look (by rfl) (by rfl) (fun K hK => ?_); go_big_quiet_op; refine hK _ ?_; clear hK K))
  refine text_act (by rfl) (by rfl) (fun K hK => ?_)
  refine wp_append_n (.tmp 17) (.tmp 19) _ rfl elemPrin (n := 2 + d.aliases.length) (s := s3) rfl (by have := LA.out; simp [this]; omega) hown3 rfl LT.out.symm (ST.out.later (below_step hB hb3)) (by have := LA.out; rw [LT.out]; simp [this]; omega) (by have := hb3.size; exact this) ?_
  intro s4 w4 hown4 hg4 hat4
  have hb4 := own_below hown3 hb3 hg4
  go_wp2_with fail
  refine hK _ _ (since_of hb4) ?_
  clear hK K
  repeat (first | (refine text_skip (by rfl) ?_) | (refine text_look (by rfl) (by rfl) (fun K hK => ?_); go_big_quiet_op; refine hK _ ?_; clear hK K))
  refine text_act (by rfl) (by rfl) (fun K hK => ?_)
  refine wp_append_n (.tmp 20) (.tmp 22) _ rfl elemPrin (n := 2 + d.aliases.length + d.targets.length) (s := s4) rfl (by have := LA.out; have := LT.out; simp [*]; omega) hown4 rfl LD.out.symm (SD.out.later (below_step hB hb4)) (by have h1 := LA.out; have h2 := LT.out; rw [LD.out]; simp [h1, h2]; omega) (by have := hb4.size; exact this) ?_
  intro s5 w5 hown5 hg5 hat5
  have hb5 := own_below hown4 hb4 hg5
  go_wp2_with fail
  refine hK _ _ (since_of hb5) ?_
  clear hK K
  repeat (first | (refine text_skip (by rfl) ?_) | (refine text_look (by rfl) (by rfl) (fun K hK => ?_); go_big_quiet_op; refine hK _ ?_; clear hK K))
  refine text_nil ?_
  have hB5 := below_step hB hb5
  obtain ⟨L, hL⟩ : ∃ L, L = [n, d.name] ++ d.aliases ++ d.targets ++ d.delegates := ⟨_, rfl⟩
  have hLn : 2 + d.aliases.length + d.targets.length + d.delegates.length = L.length := by rw [hL]; simp; omega
  rw [hLn]
  by_cases hbig : 14 < L.length
  · have hbig' : (14 : Int) < (L.length : Int) := by omega
    have HN := Lib.hid (boolOf_t (show ¬ FineU n d q pn from fun h => by have := h.count; omega))
    go_wp2_with fail
    go_ret
    exact ⟨by rw [HN.out]; rfl, hB5⟩
  have hbig' : ¬ (14 : Int) < (L.length : Int) := by omega
  have HP := Lib.hid (show PrinsAt w5 s5.a L by
    have h0 : RowsOf w [prinC s n, prinC r.parts d.name] [n, d.name] := ⟨rfl, fun i hi => by
      match i, hi with
      | 0, _ => exact ⟨n, s, rfl, rfl, hn⟩
      | 1, _ => exact ⟨d.name, r.parts, rfl, rfl, he.name⟩⟩
    have h := ((h0.append ⟨LA.out, QA.out⟩).append ⟨LT.out, QT.out⟩).append ⟨LD.out, QD.out⟩
    rw [hL]
    exact (h.later hB5).prins hown5 (by unfold lim; simp; omega))
  have HL := Lib.hid hL
  have HLn := Lib.hid hLn
  rw [hW0] at hb5
  clear hL hLn hcc hff hrr hsz hown hown3 hown4 hown5 hg3 hg4 hg5 hat3 hat4 hat5
  obtain ⟨hcc, hff, hrr⟩ := bcell hb5
  have hsz : w.heap.size + 1 < w5.heap.size := by have := hb5.size; simp at this; omega
  have hkeys := Lib.hid (he.keys.later hB5)
  go_wp2_with fail
  all_goals first
    | (go_ret; exact ⟨by rw [boolOf_t (fun h : FineU n d q pn => by have h1 := h.count; have h2 := h.keys; have h3 := h.policy; have h4 := h.history; have h5 := h.pname; have h6 := h.pol; have h7 := HLn.out; omega)]; rfl, hB5⟩)
    | skip
  have HC := Lib.hid (show L.length ≤ 14 ∧ d.keys.length ≤ 4 ∧ d.policy.size ≤ 60 ∧ d.history.length ≤ 20 ∧ pn.size ≤ 60 ∧ q.name.size ≤ 60 from ⟨by omega, by omega, by omega, by omega, by omega, by omega⟩)
  go_loop [5] (fun i => ∃ k : Nat, k ≤ L.length ∧ i = .int .i64 k ∧ Hid (∀ j (h : j < L.length), j < k → nameU L[j])) (fun i => L.length - (intOf i).toNat)
  case atStart => exact ⟨0, Nat.zero_le _, rfl, fun j h hj => absurd hj (Nat.not_lt_zero _)⟩
  case round =>
    obtain ⟨k, hk, rfl, hall⟩ := hrel
    by_cases hlt : k < L.length
    · obtain ⟨g, o, t, ha, hrow, hpa⟩ := HP.out.get k hlt
      have hltI : (k : Int) < (L.length : Int) := by omega
      have hgb7 : g < w5.heap.size := row?_lt hrow
      have hq0 : w5.cell? ⟨g, o + k * 2, none⟩ = some (.slice t.a L[k].parts.length t.cap) := by have := row?_cell hrow 0 (by omega); simpa [go_sem] using this
      have hq1 : w5.cell? ⟨g, o + k * 2 + 1, none⟩ = some (.string L[k].realm) := by have := row?_cell hrow 1 (by omega); simpa [go_sem] using this
      have hpl : L[k].parts.length ≤ 4294967000 := hpa.1.1
      have hpr : L[k].realm.size ≤ 4294967000 := hpa.2
      obtain ⟨s5a, s5c⟩ := s5
      dsimp only at ha
      subst ha
      have HNO := Lib.hid (show ¬ nameU L[k] → boolOf (¬ FineU n d q pn) = true from fun h => boolOf_t (fun hh => h (hh.names _ (by rw [← HL.out]; exact List.getElem_mem hlt))))
      by_cases hz1 : L[k].parts.length ≤ 8
      case neg =>
        go_wp2_with fail
        go_ret
        exact ⟨by rw [HNO.out (fun h => hz1 h.1)]; rfl, hB5⟩
      by_cases hz2 : L[k].realm.size ≤ 60
      case neg =>
        go_wp2_with fail
        go_ret
        exact ⟨by rw [HNO.out (fun h => hz2 h.2.1)]; rfl, hB5⟩
      go_wp2_with fail
      go_loop [6] (fun i => ∃ j : Nat, j ≤ L[k].parts.length ∧ i = .int .i64 j ∧ Hid (∀ l (h : l < L[k].parts.length), l < j → L[k].parts[l].size ≤ 60)) (fun i => L[k].parts.length - (intOf i).toNat)
      case atStart => exact ⟨0, Nat.zero_le _, rfl, fun j h hj => absurd hj (Nat.not_lt_zero _)⟩
      case round =>
        obtain ⟨j, hj, rfl, hby⟩ := hrel
        by_cases hjt : j < L[k].parts.length
        · obtain ⟨b2, o2, ha2, hc2, hs2⟩ := hpa.1.get j hjt
          have hs2' : L[k].parts[j].size ≤ 4294967000 := hs2
          have hgb2 : b2 < w5.heap.size := World.block_lt_of_cell? w5 _ hc2
          rw [ha2] at hq0
          go_wp2_with fail
          all_goals first
            | (go_ret; exact ⟨by rw [HNO.out (fun h => by have := h.2.2 j hjt; omega)]; rfl, hB5⟩)
            | (go_round
               case rel => exact ⟨j + 1, by omega, by go_num, fun l h hl => by
                 rcases Nat.lt_or_ge l j with h1 | h1
                 · exact hby.out l h h1
                 · obtain rfl : l = j := by omega
                   omega⟩
               case measure => simp [intOf]; omega)
        · have HS := Lib.hid (show ∀ l (h : l < L.length), l < k + 1 → nameU L[l] from fun l h hl => by
            rcases Nat.lt_or_ge l k with h1 | h1
            · exact hall.out l h h1
            · obtain rfl : l = k := by omega
              exact ⟨hz1, hz2, fun m hm => hby.out m hm (by omega)⟩)
          go_wp2_with fail
          go_round
          case rel => exact ⟨k + 1, by omega, by go_num, HS.out⟩
          case measure => simp [intOf]; omega
    · have hltI : ¬ (k : Int) < (L.length : Int) := by omega
      have HA := Lib.hid (show ∀ x ∈ [n, d.name] ++ d.aliases ++ d.targets ++ d.delegates, nameU x by
        intro x hx
        rw [← HL.out] at hx
        obtain ⟨i, hi, rfl⟩ := List.mem_iff_getElem.1 hx
        exact hall.out i hi (by omega))
      go_wp2_with fail
      go_loop [7] (fun i => ∃ k : Nat, k ≤ d.keys.length ∧ i = .int .i64 k ∧ Hid (∀ j (h : j < d.keys.length), j < k → d.keys[j].keys.length ≤ 6 ∧ d.keys[j].salt.size ≤ 300)) (fun i => d.keys.length - (intOf i).toNat)
      case atStart => exact ⟨0, Nat.zero_le _, rfl, fun j h hj => absurd hj (Nat.not_lt_zero _)⟩
      case round =>
        obtain ⟨j, hj, rfl, hset⟩ := hrel
        by_cases hjt : j < d.keys.length
        · obtain ⟨b2, o2, s2, ha2, hq2, hs2⟩ := hkeys.out.get j hjt
          have hgb2 := row?_lt hq2
          have hy1 : w5.cell? ⟨b2, o2 + j * 5 + 1, none⟩ = some (.slice s2.a d.keys[j].keys.length s2.cap) := by have := row?_cell hq2 1 (by omega); simpa [go_sem] using this
          have hy2 : w5.cell? ⟨b2, o2 + j * 5 + 2, none⟩ = some (.string d.keys[j].salt) := by have := row?_cell hq2 2 (by omega); simpa [go_sem] using this
          have hkl : d.keys[j].keys.length ≤ 4294967000 := hs2.1.1
          have hsl : d.keys[j].salt.size ≤ 4294967000 := hs2.2
          have HNO := Lib.hid (show ¬ (d.keys[j].keys.length ≤ 6 ∧ d.keys[j].salt.size ≤ 300) → boolOf (¬ FineU n d q pn) = true from fun h => boolOf_t (fun hh => h (hh.sets _ (List.getElem_mem hjt))))
          by_cases hz1 : d.keys[j].keys.length ≤ 6
          case neg =>
            go_wp2_with fail
            go_ret
            exact ⟨by rw [HNO.out (fun h => hz1 h.1)]; rfl, hB5⟩
          by_cases hz2 : d.keys[j].salt.size ≤ 300
          case neg =>
            go_wp2_with fail
            go_ret
            exact ⟨by rw [HNO.out (fun h => hz2 h.2)]; rfl, hB5⟩
          go_wp2_with fail
          go_round
          case rel => exact ⟨j + 1, by omega, by go_num, fun l h hl => by
            rcases Nat.lt_or_ge l j with h1 | h1
            · exact hset.out l h h1
            · obtain rfl : l = j := by omega
              exact ⟨hz1, hz2⟩⟩
          case measure => simp [intOf]; omega
        · have HN := Lib.hid (boolOf_f (show ¬ ¬ FineU n d q pn from fun h => h ⟨by have := HLn.out; have := HC.out.1; omega, HC.out.2.1, HC.out.2.2.1, HC.out.2.2.2.1, HC.out.2.2.2.2.1, HC.out.2.2.2.2.2, HA.out, fun x hx => by
            obtain ⟨i, hi, rfl⟩ := List.mem_iff_getElem.1 hx
            exact hset.out i hi (by omega)⟩))
          go_wp2_with fail
          go_ret
          exact ⟨by rw [HN.out]; rfl, hB5⟩
end Go.Proofs.YtidadlcknkeodaaGreatDoor
/- (*Replica).none at a replica that has a database. -/
namespace Go.Proofs.YtidadlcknkeodaaGreatDoor
open Go.RowKit Go.WW
theorem rnone_c (b o : Nat) (v : Addr) (w : World) (hc : w.cell? ⟨b, o + 34, none⟩ = some (.pointer (some v))) :
    Calls Tryz.prog 40 #[.pointer (some ⟨b, o, none⟩)] w fun e w' => e = .returned (.bool false) ∧ w' = w := by
  have hlt := World.block_lt_of_cell? w _ hc
  go_enter Tryz.func40, Tryz.ntmps40
  go_wp2_with fail
  go_ret
  exact ⟨rfl, rfl⟩
end Go.Proofs.YtidadlcknkeodaaGreatDoor
/- sha's add over opaque words: the state at 0 of 73 cells. -/
namespace Go.MiniT
open Go Go.Mini
theorem add_run1 : AddRun 73 0 := fun t u => by kernel_rfl
end Go.MiniT
/- The oracle of sha's add at known words and bytes. -/
namespace Go.Mini
open Go.RowKit
variable [O : Opq] {G : GB} {B : Nat → Prop} {W0 : World} {σ : Sg} {V : Nat → Prop} {h : MH} {w w' : World}
theorem Rel.redo (R : Rel G B W0 σ V h w) {id : Nat} {b0 b : MB} (hv : V id) (hb0 : h.get id = some b0) (hl0 : live b0 = true) (hG : G.ro ≤ id)
    (hW : ∀ k, B k → k < W0.heap.size) (hk : Kept (fun k => k < w.heap.size ∧ k ≠ (σ id).blk) w w') (hblk : Blk σ V id w' b) : Rel G B W0 σ V (h.set id b) w' := by
  have hget : ∀ k, k ≠ id → (h.set id b).get k = h.get k := fun k hk => by rw [MH.get_set, if_neg hk]
  have hsame : (h.set id b).get id = some b := by rw [MH.get_set, if_pos rfl]
  have hown := R.own id b0 hv hb0 hl0 hG
  refine ⟨fun k b' hk' hb' => ?_, fun id1 id2 b1 b2 hv1 hv2 h1 h2 l1 l2 he => ?_, fun k b' hk' hb' hl hg => ?_, R.glob, fun k b' hb' => ?_, R.vx, R.gx,
    ⟨hk.os.trans R.below.os, hk.tape.trans R.below.tape, hk.output.trans R.below.output, Nat.le_trans R.below.size hk.size, fun k hB => ?_⟩⟩
  · by_cases e : k = id
    · subst e; rw [hsame] at hb'; cases hb'; exact hblk
    · rw [hget k e] at hb'
      refine (R.blk k b' hk' hb').agr (fun _ _ => rfl) (fun _ hx => hx) hk' (fun hl => hk.block _ ⟨R.lt hk' hb' hl, fun e' => e ?_⟩)
      exact R.inj k id b' b0 hk' hv hb' hb0 hl hl0 e'
  · by_cases e1 : id1 = id <;> by_cases e2 : id2 = id
    · rw [e1, e2]
    · subst e1; rw [hget _ e2] at h2; exact R.inj _ _ _ _ hv1 hv2 hb0 h2 hl0 l2 he
    · subst e2; rw [hget _ e1] at h1; exact R.inj _ _ _ _ hv1 hv2 h1 hb0 l1 hl0 he
    · rw [hget _ e1] at h1; rw [hget _ e2] at h2; exact R.inj _ _ _ _ hv1 hv2 h1 h2 l1 l2 he
  · by_cases e : k = id
    · subst e; exact hown
    · rw [hget k e] at hb'; exact R.own k b' hk' hb' hl hg
  · by_cases e : k = id
    · subst e; exact R.nx _ _ hb0
    · rw [hget k e] at hb'; exact R.nx k b' hb'
  · have hlt : k < w.heap.size := Nat.lt_of_lt_of_le (hW k hB) R.below.size
    exact (hk.block k ⟨hlt, fun e => hown (e ▸ hB)⟩).trans (R.below.block k hB)
omit O in
theorem one_cellsV {v : Value} (h : v.oneCell' = true) : v.cells = #[v] ∧ v.oneCell' = true := by
  refine ⟨?_, h⟩
  cases v <;> first | rfl | cases h
noncomputable def wordsOf (l : List MV) : Option (List Nat) :=
  List.rec (some []) (fun v _ ih => match v with
    | .int .u32 (.ofNat n) => match ih with | some r => some (n :: r) | none => none
    | _ => none) l
omit O in
theorem wordsOf_cons (v : MV) (l : List MV) : wordsOf (v :: l) = (match v with
    | .int .u32 (.ofNat n) => match wordsOf l with | some r => some (n :: r) | none => none
    | _ => none) := rfl
omit O in
theorem wordsOf_ok : ∀ (l : List MV) (ws : List Nat), wordsOf l = some ws → l = ws.map (fun n => .int .u32 (.ofNat n)) := by
  intro l
  induction l with
  | nil => intro ws h; have e : wordsOf [] = some [] := rfl
           rw [e] at h; cases h; rfl
  | cons v l ih =>
    intro ws h
    rw [wordsOf_cons] at h
    split at h
    · split at h
      · rename_i r hr
        cases h
        rw [ih r hr]; rfl
      · cases h
    · cases h
noncomputable def ints (l : List Nat) : List Int := List.rec [] (fun n _ ih => Int.ofNat n :: ih) l
omit O in
theorem ints_eq (l : List Nat) : ints l = l.map Int.ofNat := by
  induction l with
  | nil => rfl
  | cons n l ih => exact congrArg (Int.ofNat n :: ·) ih
end Go.Mini
namespace Go.MiniT
open Go Go.Mini Go.RowKit
noncomputable def eights (S : Tr Int) : List Int := [Mini.look S 1561, Mini.look S 1562, Mini.look S 1563, Mini.look S 1564, Mini.look S 1565, Mini.look S 1566, Mini.look S 1567, Mini.look S 1568]
def AddFact (st bs out : List Nat) : Prop := eights (ssa symT.tab 72 (ins (ints st ++ ints bs) 0 .nil)) = ints out
theorem AddFact.get {st bs out : List Nat} (h : AddFact st bs out) (i : Nat) (hi : i < 8) : (ints out)[i]? = some (addF (ints st) (ints bs) i) := by
  unfold AddFact eights at h
  rw [← h]
  match i, hi with
  | 0, _ => rfl
  | 1, _ => rfl
  | 2, _ => rfl
  | 3, _ => rfl
  | 4, _ => rfl
  | 5, _ => rfl
  | 6, _ => rfl
  | 7, _ => rfl
abbrev AddTab := List (List Nat × List Nat × List Nat)
noncomputable def findAdd (tab : AddTab) (st bs : List Nat) : Option (List Nat) := List.rec none (fun p _ ih => Bool.rec ih (some p.2.2) (and (eqNs p.1 st) (eqNs p.2.1 bs))) tab
theorem findAdd_mem {tab : AddTab} {st bs out : List Nat} (h : findAdd tab st bs = some out) : (st, bs, out) ∈ tab := by
  induction tab with
  | nil => cases h
  | cons p tab ih =>
    have e : findAdd (p :: tab) st bs = Bool.rec (findAdd tab st bs) (some p.2.2) (and (eqNs p.1 st) (eqNs p.2.1 bs)) := rfl
    rw [e] at h
    cases hq : and (eqNs p.1 st) (eqNs p.2.1 bs) with
    | false => rw [hq] at h; exact List.mem_cons_of_mem _ (ih h)
    | true =>
      rw [hq] at h; cases h
      obtain ⟨q1, q2⟩ := and2 hq
      rw [← eqNs_eq _ _ q1, ← eqNs_eq _ _ q2]
      exact List.mem_cons_self
def layOk (n so : Nat) : Bool := and (or (Nat.beq n 8) (Nat.beq n 73)) (Nat.beq so 0)
theorem layOk_run {n so : Nat} (h : layOk n so = true) : AddRun n so ∧ so + 8 ≤ n := by
  obtain ⟨h1, h2⟩ := and2 h
  obtain rfl := Nat.eq_of_beq_eq_true h2
  cases h8 : Nat.beq n 8 with
  | true => obtain rfl := Nat.eq_of_beq_eq_true h8; exact ⟨add_run0, by decide⟩
  | false =>
    rw [h8] at h1
    obtain rfl := Nat.eq_of_beq_eq_true (show Nat.beq n 73 = true from h1)
    exact ⟨add_run1, by decide⟩
noncomputable def shaIn (h : MH) : Bool := and (isB shaT.b0 (h.get shaT.s0)) (isB shaT.b1 (h.get shaT.s1))
theorem isB_eq {b : MB} {x : Option MB} (hx : isB b x = true) : x = some b := by
  unfold isB at hx
  split at hx
  · rw [eqB_eq _ _ hx]
  · cases hx
noncomputable def addV8 (tab : AddTab) : Option (List MV) → Option (List MV) → Option (List Nat)
  | some l, some d => match wordsOf l, bytesOf d with
    | some st, some bs => findAdd tab st bs
    | _, _ => none
  | _, _ => none
noncomputable def addR (h : MH) (s so b bo : Nat) (tab : AddTab) : Option (MV × MH) :=
  match h.get s, h.get b with
  | some (.cells cs t es false), some (.cells ds _ _ _) => cond (and (layOk (llen cs 0) so) (shaIn h)) (match addV8 tab (ltake 8 (ldrop so cs)) (ltake 64 (ldrop bo ds)) with
    | some out => cond (Nat.beq (llen out 0) 8) (some (.tup [], h.set s (.cells (lsets so (u32s out) cs) t es false))) none
    | none => none) none
  | _, _ => none
noncomputable def orcAdd (f a ro : Nat) (tab : AddTab) : Orc := fun g args h =>
  cond (Nat.beq g f) (match args with
    | [.ptr s so, .sl b bo len cap] => cond (and (and (Nat.beq len 64) (Nat.beq cap 64)) (and (and (Nat.ble a s) (Nat.ble ro s)) (and (Nat.ble a b) (not (Nat.beq s b))))) (addR h s so b bo tab) none
    | _ => none) none
theorem words_at [Opq] {G : GB} {B : Nat → Prop} {W0 : World} {σ : Sg} {V : Nat → Prop} {h : MH} {w : World} (R : Rel G B W0 σ V h w) {s : Nat} {l : List Nat} {t : TypeId} (hs : s < G.g0) (hg : h.get s = some (.cells (u32s l) t 1 false)) : WordsAt w s l t := by
  obtain ⟨g1, g2, g3⟩ := R.glob s hs
  obtain ⟨c, fz, k1, -, -, k4, -, k6⟩ := R.blk s _ g1 hg
  rw [g2] at k1
  refine ⟨c, fz, k1, fun i n hi => ?_, k6⟩
  have := k4 i (.int .u32 (.ofNat n)) (by rw [u32s_eq, List.getElem?_map, hi]; rfl)
  rw [g3, Nat.zero_add] at this
  exact this
theorem orcAdd_ok [Opq] (hT : TurnC) (hC : ChoiceC) {tab : AddTab} (facts : ∀ p ∈ tab, AddFact p.1 p.2.1 p.2.2) {G : GB} (hGg : G.g0 = 11) {B : Nat → Prop} {W0 : World} (hW : ∀ k, B k → k < W0.heap.size) :
    OrcIs G Go.Proofs.Tryz.prog B W0 (orcAdd 81 11 G.ro tab) := by
  intro g args h v h' ho σ V w R hw
  unfold orcAdd at ho
  cases hg : Nat.beq g 81 with
  | false => rw [hg] at ho; cases ho
  | true =>
    rw [hg] at ho
    obtain rfl := Nat.eq_of_beq_eq_true hg
    simp only [cond_true] at ho
    split at ho
    · rename_i s so b bo len cap
      cases hq : and (and (Nat.beq len 64) (Nat.beq cap 64)) (and (and (Nat.ble 11 s) (Nat.ble G.ro s)) (and (Nat.ble 11 b) (not (Nat.beq s b)))) with
      | false => rw [hq] at ho; cases ho
      | true =>
        rw [hq] at ho
        simp only [cond_true] at ho
        obtain ⟨q1, q2⟩ := and2 hq
        obtain ⟨q11, q12⟩ := and2 q1
        obtain ⟨q2, q3⟩ := and2 q2
        obtain ⟨q21, q22⟩ := and2 q2
        obtain ⟨q31, q32⟩ := and2 q3
        obtain rfl := Nat.eq_of_beq_eq_true q11
        obtain rfl := Nat.eq_of_beq_eq_true q12
        have q21 := Nat.le_of_ble_eq_true q21
        have q22 := Nat.le_of_ble_eq_true q22
        have q31 := Nat.le_of_ble_eq_true q31
        have hsb : s ≠ b := fun e => by subst e; rw [Nat.beq_refl] at q32; cases q32
        simp only [wfs, wf] at hw
        obtain ⟨hvs, ⟨hvb, -⟩, -⟩ := hw
        unfold addR at ho
        split at ho
        · rename_i cs t es ds u es2 o2 hgs hgb
          cases hl : and (layOk (llen cs 0) so) (shaIn h) with
          | false => rw [hl] at ho; cases ho
          | true =>
            rw [hl] at ho
            simp only [cond_true] at ho
            obtain ⟨l1, l2⟩ := and2 hl
            rw [llen_eq, Nat.add_zero] at l1
            obtain ⟨l3, l4⟩ := and2 l2
            have l3 := isB_eq l3
            have l4 := isB_eq l4
            obtain ⟨hrun, hfit⟩ := layOk_run l1
            split at ho
            · rename_i out hout
              cases h8 : Nat.beq (llen out 0) 8 with
              | false => rw [h8] at ho; cases ho
              | true =>
                rw [h8] at ho
                cases ho
                have h8 := Nat.eq_of_beq_eq_true h8
                rw [llen_eq, Nat.add_zero] at h8
                unfold addV8 at hout
                split at hout
                · rename_i l d hl hd
                  split at hout
                  · rename_i st bs hst hbs
                    have hfact := facts _ (findAdd_mem hout)
                    have e1 := wordsOf_ok _ _ hst
                    obtain ⟨b1, b2⟩ := bytesOf_ok _ _ hbs
                    obtain ⟨t1, t2⟩ := ltake_some hl
                    obtain ⟨t3, t4⟩ := ltake_some hd
                    rw [ldrop_eq] at t1 t2 t3 t4
                    have hl8 : l.length = 8 := by rw [t2, List.length_take]; omega
                    have hd64 : d.length = 64 := by rw [t4, List.length_take]; omega
                    have hst8 : st.length = 8 := by rw [← hl8, e1]; simp
                    have hbs64 : bs.length = 64 := by rw [← hd64, b2]; simp
                    have lget : ∀ i, i < 8 → cs[so + i]? = l[i]? := fun i hi => by
                      rw [t2, List.getElem?_take, if_pos hi, List.getElem?_drop]
                    have dget : ∀ i, i < 64 → ds[bo + i]? = d[i]? := fun i hi => by
                      rw [t4, List.getElem?_take, if_pos hi, List.getElem?_drop]
                    obtain ⟨c, fz, k1, k2, k3, k4, -, k6⟩ := R.blk s _ hvs hgs
                    obtain ⟨c', fz', j1, j2, j3, j4, -, j6⟩ := R.blk b _ hvb hgb
                    have hone : ∀ v ∈ embs σ cs, v.cells = #[v] ∧ v.oneCell' = true := fun v hv => by
                      rw [embs_map] at hv
                      obtain ⟨x, hx, rfl⟩ := List.mem_map.1 hv
                      exact one_cellsV (one_emb σ ((ones_iff _).1 k3 x hx))
                    have g0 := R.glob shaT.s0 (by rw [hGg]; decide)
                    have g1 := R.glob shaT.s1 (by rw [hGg]; decide)
                    have far : ∀ k x, k < 11 → V k → h.get k = some x → live x = true → (σ k).blk = k → ∀ j y, 11 ≤ j → V j → h.get j = some y → live y = true → (σ j).blk ≠ k := fun k x hk hvk hgk hlk ek j y hj hvj hgj hlj e => by
                      have := R.inj j k y x hvj hvk hgj hgk hlj hlk (by rw [e, ek])
                      omega
                    have hat : AddAt (ints st) (ints bs) (embs σ cs) cs.length so (σ s).blk (σ s).off (σ b).blk ((σ b).off + bo) t u w := by
                      refine ⟨by rw [ints_eq]; simpa using hst8, by rw [ints_eq]; simpa using hbs64, by rw [embs_map]; simp, hfit, hone, fun i hi => ?_, ⟨c, fz, k1, fun i v hv => ?_, k6⟩, ⟨c', fz', j1, fun i hi => ?_, j6⟩, ?_, ⟨⟨?_, ?_⟩, ?_, ?_⟩, ?_, ?_⟩
                      · rw [embs_map, List.getElem?_map, lget i hi, e1, List.getElem?_map, ints_eq, List.getElem?_map, List.getElem?_eq_getElem (show i < st.length by omega)]
                        rfl
                      · rw [embs_map, List.getElem?_map] at hv
                        cases hx : cs[i]? with
                        | none => rw [hx] at hv; cases hv
                        | some x => rw [hx] at hv; cases hv; exact k4 i x hx
                      · have hx : ds[bo + i]? = some (.int .u8 (.ofNat (bs[i]'(by omega)))) := by
                          rw [dget i hi, b2, List.getElem?_map, List.getElem?_eq_getElem (show i < bs.length by omega)]; rfl
                        have := j4 (bo + i) _ hx
                        rw [← Nat.add_assoc] at this
                        rw [this, ints_eq, List.getElem?_map, List.getElem?_eq_getElem (show i < bs.length by omega)]
                        rfl
                      · exact fun e => hsb (R.inj s b _ _ hvs hvb hgs hgb rfl rfl e.symm)
                      · exact far _ _ (by decide) g0.1 l3 rfl g0.2.1 s _ q21 hvs hgs rfl
                      · exact far _ _ (by decide) g1.1 l4 rfl g1.2.1 s _ q21 hvs hgs rfl
                      · exact far _ _ (by decide) g0.1 l3 rfl g0.2.1 b _ q31 hvb hgb rfl
                      · exact far _ _ (by decide) g1.1 l4 rfl g1.2.1 b _ q31 hvb hgb rfl
                      · exact words_at R (by rw [hGg]; decide) l3
                      · exact words_at R (by rw [hGg]; decide) l4
                    have hc := add_c hT hC hrun hat
                    have ea : (⟨embs σ [.ptr s so, .sl b bo 64 64]⟩ : Array Value) = #[.pointer (some ⟨(σ s).blk, (σ s).off + so, none⟩), .slice (some ⟨(σ b).blk, (σ b).off + bo, none⟩) 64 64] := by
                      simp only [embs, emb]
                    rw [ea]
                    refine hc.mono ?_
                    rintro e w' ⟨rfl, hkept, c2, fz2, m1, m2, m3, m4⟩
                    have hu8 : (u32s out).length = 8 := by rw [u32s_eq]; simpa using h8
                    obtain ⟨n1, n2⟩ := lsets_get so (u32s out) cs (by rw [hu8]; exact hfit)
                    have hm : ∀ v ∈ u32s out, ∃ n : Nat, v = .int .u32 (.ofNat n) := fun v hv => by rw [u32s_eq] at hv; obtain ⟨n, -, rfl⟩ := List.mem_map.1 hv; exact ⟨n, rfl⟩
                    obtain ⟨w1, w2, -⟩ := lsets_wf (off := so) (by rw [hu8]; exact hfit) ((wfs_iff _).2 fun v hv => by obtain ⟨n, rfl⟩ := hm v hv; simp only [wf]) ((ones_iff _).2 fun v hv => by obtain ⟨n, rfl⟩ := hm v hv; rfl) k2 k3
                    have hblk : Blk σ V s w' (.cells (lsets so (u32s out) cs) t es false) := by
                      refine ⟨c2, fz2, m1, w1, w2, fun i v hv => ?_, fun hf => (by cases hf), m4⟩
                      rw [n2, hu8] at hv
                      split at hv
                      · rename_i hi
                        have hj := hfact.get (i - so) (by omega)
                        rw [ints_eq, List.getElem?_map] at hj
                        rw [u32s_eq, List.getElem?_map] at hv
                        cases hx : out[i - so]? with
                        | none => rw [hx] at hv; cases hv
                        | some n =>
                          rw [hx] at hv hj
                          cases hv
                          have hm2 := m2 (i - so) (by omega)
                          rw [show so + (i - so) = i by omega] at hm2
                          rw [hm2]
                          simp only [Option.map_some, Option.some.injEq] at hj
                          rw [← hj]
                          simp only [emb]
                      · rename_i hi
                        exact m3 i (emb σ v) (by omega) (by rw [embs_map, List.getElem?_map, hv]; rfl)
                    exact ⟨σ, V, Agr.refl _ _, fun _ hx => hx, fun _ hx => .inl hx, Nat.le_refl _, R.redo hvs hgs rfl q22 hW hkept hblk, by simp only [wf, wfs], rfl⟩
                  · cases hout
                · cases hout
            · cases ho
        · cases ho
    · cases ho
end Go.MiniT
/- A function of byte strings, out of a run on a heap of its own: it returns fresh bytes and no error. -/
namespace Go.MiniT
open Go Go.Mini Go.RowKit
noncomputable def atsN (u : TypeId) (l : List (List Nat)) : Nat → Tr MB → Tr MB := List.rec (fun _ t => t) (fun b _ ih a t => ih (Nat.succ a) (t.put a (.cells (ofBytes b) u 1 false))) l
noncomputable def argsN (l : List (List Nat)) : Nat → List MV → List MV := List.rec (fun _ t => t) (fun b _ ih a t => .slo a 0 0 (llen b 0) :: ih (Nat.succ a) t) l
noncomputable def resP (ro : Nat) : Option (MV × MH) → Option (List Nat)
  | some (.tup [.slo r 0 0 n, .int .i64 (.ofNat 0)], h) => match h.get r with
    | some (.cells cs t es true) => cond (and (Nat.ble ro r) (and (and (Nat.beq t shaT.u8) (Nat.beq es 1)) (Nat.beq (llen cs 0) n))) (bytesOf cs) none
    | _ => none
  | _ => none
def FnFact (E : Env) (f n a : Nat) (ib : List (List Nat)) (tail : List MV) (out : List Nat) : Prop := resP (Nat.add a (llen ib 0)) (Go.Mini.run E n (.call f (argsN ib a tail)) (Go.Mini.start ⟨Nat.add a (llen ib 0), a⟩ (atsN shaT.u8 ib a shaT.tab))) = some out
structure BytesIn (w : World) (r : RI) (bs : List Nat) : Prop where
  row : ∃ (c : Array Value) (fz : Nat × Nat), w.heap[r.blk]? = some (.cells c shaT.u8 fz) ∧ (∀ (i n : Nat), bs[i]? = some n → c[r.off + i]? = some (Value.int .u8 (n : Nat))) ∧ (fz.1 = fz.2 ∨ c.size ≤ fz.1)
  cap : bs.length ≤ r.cap
structure Fresh (w w' : World) (r : RI) (bs : List Nat) : Prop where
  row : ∃ (c : Array Value) (fz : Nat × Nat), w'.heap[r.blk]? = some (.cells c shaT.u8 fz) ∧ (∀ (i n : Nat), bs[i]? = some n → c[r.off + i]? = some (Value.int .u8 (n : Nat))) ∧ r.off + r.cap * 1 ≤ c.size ∧ (fz.1 = fz.2 ∨ c.size ≤ fz.1)
  cap : bs.length ≤ r.cap
  new : w.heap.size ≤ r.blk
  bytes : ∀ b ∈ bs, b < 256
def slV (r : RI) (n : Nat) : Value := .slice (some ⟨r.blk, r.off, none⟩) n r.cap
structure ShaIn (w : World) : Prop where
  s0 : WordsAt w shaT.s0 shaT.l0 shaT.t0
  s1 : WordsAt w shaT.s1 shaT.l1 shaT.t1
def FnC (P : Program) (f : Nat) (ib : List (List Nat)) (tail : List Value) (out : List Nat) : Prop :=
  ∀ (w : World) (rs : List RI), ShaIn w → rs.length = ib.length → (∀ (i : Nat) (r : RI) (bs : List Nat), rs[i]? = some r → ib[i]? = some bs → BytesIn w r bs) → (∀ (i j : Nat) (r r' : RI), rs[i]? = some r → rs[j]? = some r' → r.blk = r'.blk → i = j) → (∀ r ∈ rs, r.blk ≠ shaT.s0 ∧ r.blk ≠ shaT.s1) →
    Calls P f ⟨(rs.zip ib).map (fun x => slV x.1 x.2.length) ++ tail⟩ w fun e w' => Below w.heap.size w w' ∧ ∃ r, Fresh w w' r out ∧ e = .returned (.tuple #[slV r out.length, .int .i64 0])
noncomputable def rsS (a : Nat) (rs : List RI) : Sg := fun k => if k < a then ⟨k, 0, 0⟩ else (rs[k - a]?).getD ⟨k, 0, 0⟩
section
variable [O : Opq]
end
end Go.MiniT
/- The oracle of functions of two byte strings, out of their contracts at given bytes. -/
namespace Go.Mini
open Go.RowKit
variable [O : Opq] {G : GB} {B : Nat → Prop} {W0 : World} {σ : Sg} {V : Nat → Prop} {h : MH} {w : World}
theorem Rel.adopt (R : Rel G B W0 σ V h w) {b : MB} (r : RI) (hB : ¬ B r.blk) (hf : ∀ id b, V id → h.get id = some b → live b = true → (σ id).blk ≠ r.blk)
    (hblk : Blk (upd σ h.nx r) (addV V h.nx) h.nx w b) : Rel G B W0 (upd σ h.nx r) (addV V h.nx) (h.new b) w := by
  have hne : ∀ id, V id → id ≠ h.nx := fun id hv e => Nat.lt_irrefl _ (e ▸ R.vx id hv)
  have hg : ∀ id, V id → (h.new b).get id = h.get id := fun id hv => by rw [MH.get_new, if_neg (hne id hv)]
  have hn : (h.new b).get h.nx = some b := by rw [MH.get_new, if_pos rfl]
  have ha : Agr V σ (upd σ h.nx r) := agr_upd σ r (fun hv => hne _ hv rfl)
  refine ⟨fun id b' hv hb => ?_, fun id1 id2 b1 b2 hv1 hv2 h1 h2 l1 l2 he => ?_, fun id b' hv hb hl hro => ?_, fun id hid => ?_, fun id b' hb => ?_, fun id hv => ?_, Nat.le_succ_of_le R.gx, R.below⟩
  · rcases hv with hv | rfl
    · rw [hg id hv] at hb
      exact (R.blk id b' hv hb).agr ha (fun _ hx => .inl hx) hv (fun _ => rfl)
    · rw [hn] at hb; cases hb; exact hblk
  · rcases hv1 with hv1 | rfl <;> rcases hv2 with hv2 | rfl
    · rw [hg _ hv1] at h1; rw [hg _ hv2] at h2
      rw [ha _ hv1, ha _ hv2] at he
      exact R.inj _ _ _ _ hv1 hv2 h1 h2 l1 l2 he
    · rw [hg _ hv1] at h1
      rw [ha _ hv1, upd_same] at he
      exact absurd he (hf _ _ hv1 h1 l1)
    · rw [hg _ hv2] at h2
      rw [ha _ hv2, upd_same] at he
      exact absurd he.symm (hf _ _ hv2 h2 l2)
    · rfl
  · rcases hv with hv | rfl
    · rw [hg id hv] at hb
      rw [ha _ hv]; exact R.own id b' hv hb hl hro
    · rw [upd_same]; exact hB
  · obtain ⟨g1, g2, g3⟩ := R.glob id hid
    exact ⟨.inl g1, by rw [ha _ g1]; exact g2, by rw [ha _ g1]; exact g3⟩
  · rw [MH.get_new] at hb
    split at hb
    · rename_i e; subst e; exact Nat.lt_succ_self _
    · exact Nat.lt_succ_of_lt (R.nx id b' hb)
  · rcases hv with hv | rfl
    · exact Nat.lt_succ_of_lt (R.vx id hv)
    · exact Nat.lt_succ_self _
end Go.Mini
namespace Go.MiniT
open Go Go.Mini Go.RowKit
structure FnRow where
  f : Nat
  x : List Nat
  y : List Nat
  tail : List MV
  out : List Nat
noncomputable def bytesAt (h : MH) (id off len : Nat) : Option (Nat × List Nat) :=
  match h.get id with
  | some (.cells cs t _ _) => cond (Nat.beq t shaT.u8) (match ltake len (ldrop off cs) with
    | some l => match bytesOf l with | some bs => some (id, bs) | none => none
    | none => none) none
  | _ => none
noncomputable def sliceAt (h : MH) : MV → Option (Nat × List Nat)
  | .sl id off len _ => bytesAt h id off len
  | .slo id off _ len => bytesAt h id off len
  | _ => none
noncomputable def findFn (tab : List FnRow) (g : Nat) (x y : List Nat) (tail : List MV) : Option (List Nat) :=
  List.rec none (fun r _ ih => Bool.rec ih (some r.out) (and (Nat.beq r.f g) (and (eqNs r.x x) (and (eqNs r.y y) (eqvs r.tail tail))))) tab
noncomputable def fnR (a : Nat) (tab : List FnRow) (g : Nat) (tail : List MV) (h : MH) : Option (Nat × List Nat) → Option (Nat × List Nat) → Option (MV × MH)
  | some (i, x), some (j, y) => cond (and (and (not (Nat.beq i j)) (shaIn h)) (and (Nat.ble a i) (Nat.ble a j))) (match findFn tab g x y tail with
    | some out => some (.tup [.slo h.nx 0 0 (llen out 0), .int .i64 (.ofNat 0)], h.new (.cells (ofBytes out) shaT.u8 1 true))
    | none => none) none
  | _, _ => none
noncomputable def orcFn (f1 f2 a : Nat) (tab : List FnRow) : Orc := fun g args h =>
  cond (or (Nat.beq g f1) (Nat.beq g f2)) (match args with
    | x :: y :: tail => fnR a tab g tail h (sliceAt h x) (sliceAt h y)
    | _ => none) none
section
variable [O : Opq] {G : GB} {P : Program} {B : Nat → Prop} {W0 : World} {σ : Sg} {V : Nat → Prop} {h : MH} {w : World}
end
end Go.MiniT
/- The oracle of (*Replica).Take, where it ends well: what it calls is run by the evaluator. -/
namespace Go.MiniT
open Go Go.Mini Go.RowKit
noncomputable def takeH (h : MH) (A : List MV) (tA tE : Nat) : MH := (h.new (.cells A tA 5 false)).new (.cells [.int .i64 (.ofNat 0)] tE 1 false)
noncomputable def isZeroB : Option MB → Bool
  | some (.cells [.int .i64 (.ofNat n)] _ _ _) => Nat.beq n 0
  | _ => false
noncomputable def orcTake (E : Env) (n fT tA tE f k : Nat) : Orc := fun g args h =>
  cond (Nat.beq g fT) (match args with
    | [.ptr r o, .agg [.int .i64 (.ofNat kk), v1, v2, v3, v4]] => cond (Nat.beq kk k) (match h.get r with
      | some (.cells cs _ _ _) => match lget cs (Nat.add o 34) with
        | some (.ptr _ _) => match run E n (.call f [.ptr r o, .agg [.int .i64 (.ofNat kk), v1, v2, v3, v4]]) (takeH h [.int .i64 (.ofNat kk), v1, v2, v3, v4] tA tE) with
          | some (.tup [], h1) => cond (isZeroB (h1.get (Nat.succ h.nx))) (some (.int .i64 (.ofNat 0), h1.set (Nat.succ h.nx) .dead)) none
          | _ => none
        | _ => none
      | _ => none) none
    | _ => none) none
section
variable [O : Opq] {G : GB} {B : Nat → Prop} {W0 : World} {σ : Sg} {V : Nat → Prop} {h : MH} {w : World}
theorem rel_box (R : Rel G B W0 σ V h w) (hW : ∀ k, B k → k < W0.heap.size) {cs : List MV} (hw : wfs σ V cs) (ho : ones cs = true) (t es : Nat) :
    Rel G B W0 (upd σ h.nx ⟨w.heap.size, 0, 0⟩) (addV V h.nx) (h.new (.cells cs t es false)) (w.alloc (.cells ⟨embs σ cs⟩ t)) := by
  have ha : Agr V σ (upd σ h.nx ⟨w.heap.size, 0, 0⟩) := agr_upd σ _ (fun hv => Nat.lt_irrefl _ (R.vx _ hv))
  have hb : Below w.heap.size w (w.alloc (.cells ⟨embs σ cs⟩ t)) := (Below.refl _ _).alloc (Nat.le_refl _) _
  refine (R.grown hW hb).adopt ⟨w.heap.size, 0, 0⟩ (fun hB => Nat.lt_irrefl _ (R.size hW _ hB)) (fun id b hv hg hl e => Nat.lt_irrefl _ (e ▸ R.lt hv hg hl)) ?_
  refine ⟨⟨embs σ cs⟩, _, by rw [upd_same]; exact Array.getElem?_push_size, wfs_agr ha (fun _ hx => .inl hx) cs hw, ho, fun i v hv => ?_, fun hf => (nomatch hf), .inl rfl⟩
  rw [upd_same, Nat.zero_add]
  have hwv := (wfs_iff cs).1 hw v (List.mem_of_getElem? hv)
  rw [← Array.getElem?_toList]
  show (embs σ cs)[i]? = _
  rw [embs_map, List.getElem?_map, hv, emb_agr ha v hwv]
  rfl
end
end Go.MiniT
namespace Go.Proofs.YtidadlcknkeodaaGreatDoor
open Go Go.Mini Go.MiniT Go.RowKit Go.WW
def TakeBy (k : Int) (f : Nat) : Prop := ∀ (ra : Addr) (v1 v2 v3 v4 : Value) (w : World) (Φ : World → Prop),
  Calls Tryz.prog 40 #[.pointer (some ra)] (takeW w #[.int .i64 k, v1, v2, v3, v4]) (fun e w' => e = .returned (.bool false) ∧ w' = takeW w #[.int .i64 k, v1, v2, v3, v4]) →
  Calls Tryz.prog f #[.pointer (some ra), .agg #[.int .i64 k, v1, v2, v3, v4]] (takeW w #[.int .i64 k, v1, v2, v3, v4]) (fun e w' => e = .returned (.tuple #[]) ∧ Φ w' ∧ w'.cell? ⟨w.heap.size + 1, 0, none⟩ = some (.int .i64 0) ∧ w'.frozen? ⟨w.heap.size + 1, 0, none⟩ = false) →
  Calls Tryz.prog 15 #[.pointer (some ra), .agg #[.int .i64 k, v1, v2, v3, v4]] w fun e w' => e = .returned (.int .i64 0) ∧ ∃ w1, Φ w1 ∧ w' = (w1.setCell ⟨w.heap.size + 1, 0, none⟩ (.int .i64 0)).alloc (.cells #[.int .i64 0] 114)
theorem takeBy3 : TakeBy 3 46 := take3_c
theorem takeBy2 : TakeBy 2 45 := take2_c
theorem kept_set (w : World) (p : Addr) (v : Value) : Kept (fun k => k < w.heap.size ∧ k ≠ p.block) w (w.setCell p v) := by
  refine ⟨rfl, rfl, rfl, by rw [World.size_setCell]; exact Nat.le_refl _, fun k hk => Below.heap_setCell w p v k hk.2⟩
theorem zero_of {x : Option MB} (h : isZeroB x = true) : ∃ t es o, x = some (.cells [.int .i64 (.ofNat 0)] t es o) := by
  unfold isZeroB at h
  split at h
  · rename_i n t es o
    obtain rfl := Nat.eq_of_beq_eq_true h
    exact ⟨t, es, o, rfl⟩
  · cases h
theorem orcTake_ok [O : Opq] {E : Env} {B : Nat → Prop} {W0 : World} (hE : EnvOk E Tryz.prog) (hO : OrcOk E Tryz.prog B W0) (hW : ∀ k, B k → k < W0.heap.size) {n f k : Nat} (hT : TakeBy (.ofNat k) f) : OrcIs E.G Tryz.prog B W0 (orcTake E n 15 67 40 f k) := by
  intro g args h v h' ho σ V w R hw
  unfold orcTake at ho
  cases hg : Nat.beq g 15 with
  | false => rw [hg] at ho; cases ho
  | true =>
    rw [hg] at ho
    obtain rfl := Nat.eq_of_beq_eq_true hg
    simp only [cond_true] at ho
    split at ho
    · rename_i r o kk v1 v2 v3 v4
      cases hkk : Nat.beq kk k with
      | false => rw [hkk] at ho; cases ho
      | true =>
        rw [hkk] at ho
        obtain rfl := Nat.eq_of_beq_eq_true hkk
        simp only [cond_true] at ho
        split at ho
        · rename_i cs t1 es1 o1 hr
          split at ho
          · rename_i d1 d2 hd
            split at ho
            · rename_i h1 hrun
              cases hz : isZeroB (h1.get (Nat.succ h.nx)) with
              | false => rw [hz] at ho; cases ho
              | true =>
                rw [hz] at ho
                simp only [cond_true] at ho
                cases ho
                rw [lget_eq] at hd
                simp only [wfs] at hw
                obtain ⟨hwr, hwa, -⟩ := hw
                have hwa' := hwa
                simp only [wf] at hwr hwa
                obtain ⟨c, fz, k1, -, -, k4, -, -⟩ := R.blk r _ hwr hr
                have hcell : w.cell? ⟨(σ r).blk, (σ r).off + o + 34, none⟩ = some (.pointer (some ⟨(σ d1).blk, (σ d1).off + d2, none⟩)) := by
                  have := k4 (o + 34) _ hd
                  simp only [emb, ← Nat.add_assoc] at this
                  simp [World.cell?, k1, this]
                -- the two variables
                have RA := rel_box R hW hwa.1 hwa.2 67 5
                have RE := rel_box RA hW (cs := [.int .i64 (.ofNat 0)]) (by simp [wfs, wf]) rfl 40 1
                obtain ⟨F, -, -, hc⟩ := (run_ok hE hO hW (fun go hgo => draw_ok hE hW hgo) n).1 f _ _ _ _ hrun
                have hV1 : ¬ V h.nx := fun hv => Nat.lt_irrefl _ (R.vx _ hv)
                have a1 : Agr V σ (upd σ h.nx ⟨w.heap.size, 0, 0⟩) := agr_upd σ _ hV1
                have hV2 : ¬ addV V h.nx (h.new (.cells [.int .i64 (.ofNat kk), v1, v2, v3, v4] 67 5 false)).nx := fun hv => Nat.lt_irrefl _ (RA.vx _ hv)
                have a2 := a1.trans (fun _ hx => Or.inl hx) (agr_upd (V := addV V h.nx) (id := (h.new (.cells [.int .i64 (.ofNat kk), v1, v2, v3, v4] 67 5 false)).nx) (upd σ h.nx ⟨w.heap.size, 0, 0⟩) ⟨(w.alloc (.cells ⟨embs σ [.int .i64 (.ofNat kk), v1, v2, v3, v4]⟩ 67)).heap.size, 0, 0⟩ hV2)
                obtain ⟨σ2, hσ2⟩ : ∃ x, x = upd (upd σ h.nx ⟨w.heap.size, 0, 0⟩) (h.new (.cells [.int .i64 (.ofNat kk), v1, v2, v3, v4] 67 5 false)).nx ⟨(w.alloc (.cells ⟨embs σ [.int .i64 (.ofNat kk), v1, v2, v3, v4]⟩ 67)).heap.size, 0, 0⟩ := ⟨_, rfl⟩
                obtain ⟨V2, hV2'⟩ : ∃ x, x = addV (addV V h.nx) (h.new (.cells [.int .i64 (.ofNat kk), v1, v2, v3, v4] 67 5 false)).nx := ⟨_, rfl⟩
                rw [← hσ2, ← hV2'] at RE
                rw [← hσ2] at a2
                have hVV : ∀ x, V x → V2 x := fun x hx => hV2' ▸ .inl (.inl hx)
                have hargs : wfs σ V [.ptr r o, .agg [.int .i64 (.ofNat kk), v1, v2, v3, v4]] := by simp only [wfs]; exact ⟨by simpa only [wf] using hwr, hwa', trivial⟩
                have hcall := hc _ _ _ RE (wfs_agr a2 hVV _ hargs)
                rw [embs_agr a2 _ hargs] at hcall
                have HT := hT ⟨(σ r).blk, (σ r).off + o, none⟩ (emb σ v1) (emb σ v2) (emb σ v3) (emb σ v4) w (fun w' => EndK E.G B W0 σ2 V2 (takeH h [.int .i64 (.ofNat kk), v1, v2, v3, v4] 67 40) h1 (.tup []) (.returned (.tuple #[])) w') ?_ (hcall.mono ?_)
                · refine HT.mono ?_
                  rintro e w' ⟨rfl, w1, ⟨σ', V', b1, b2, b3, b4, R3, -, -⟩, rfl⟩
                  have hi : V' (Nat.succ h.nx) := b2 _ (hV2' ▸ .inr rfl)
                  have hs : σ' (Nat.succ h.nx) = ⟨w.heap.size + 1, 0, 0⟩ := by
                    rw [b1 (Nat.succ h.nx) (hV2' ▸ .inr rfl), hσ2]
                    simp [upd, MH.new]
                  obtain ⟨t, es, o2, hb0⟩ := zero_of hz
                  have R4 := R3.redo (b := .dead) hi hb0 rfl (Nat.le_succ_of_le R.gx) hW (kept_set w1 ⟨(σ' (Nat.succ h.nx)).blk, 0, none⟩ (.int .i64 0)) trivial
                  rw [hs] at R4
                  have R5 := R4.grown hW (Below.alloc (Below.refl _ _) (Nat.le_refl _) (.cells #[.int .i64 0] 114))
                  refine ⟨σ', V', a2.trans hVV b1, fun x hx => b2 x (hVV x hx), fun x hx => ?_, ?_, R5, by simp only [wf], rfl⟩
                  · rcases b3 x hx with hx | hx
                    · rw [hV2'] at hx
                      rcases hx with (hx | rfl) | rfl
                      · exact .inl hx
                      · exact .inr (Nat.le_refl _)
                      · exact .inr (Nat.le_succ _)
                    · exact .inr (Nat.le_trans (Nat.le_succ_of_le (Nat.le_succ _)) hx)
                  · exact Nat.le_trans (Nat.le_succ_of_le (Nat.le_succ _)) b4
                · exact (rnone_c _ _ _ _ (cell_past (cell_past hcell _) _))
                · rintro e w' ⟨σ', V', b1, b2, b3, b4, R3, hwv, rfl⟩
                  have hi : V' (Nat.succ h.nx) := b2 _ (hV2' ▸ .inr rfl)
                  have hs : σ' (Nat.succ h.nx) = ⟨w.heap.size + 1, 0, 0⟩ := by
                    rw [b1 (Nat.succ h.nx) (hV2' ▸ .inr rfl), hσ2]
                    simp [upd, MH.new]
                  obtain ⟨t, es, o2, hb0⟩ := zero_of hz
                  obtain ⟨c, fz, m1, -, -, m4, -, m6⟩ := R3.blk _ _ hi hb0
                  rw [hs] at m1 m4
                  have m4 := m4 0 _ rfl
                  simp only [emb, Nat.add_zero] at m4
                  refine ⟨rfl, ⟨σ', V', b1, b2, b3, b4, R3, hwv, rfl⟩, by simp only [World.cell?, m1]; exact m4, ?_⟩
                  have hlt := (Array.getElem?_eq_some_iff.1 m4).1
                  simp only [World.frozen?, m1]
                  rcases m6 with m6 | m6
                  · simp [m6]
                  · simp; omega
            · cases ho
          · cases ho
        · cases ho
    · cases ho
end Go.Proofs.YtidadlcknkeodaaGreatDoor
/- A call that writes nothing that is old: the evaluator runs it with all blocks so far as blocks that are only read. -/
namespace Go.MiniT
open Go Go.Mini Go.RowKit
noncomputable def pureE (E : Env) (h : MH) : Env := { E with G := ⟨h.nx, E.G.g0⟩, orc := noOrc }
theorem pure_ok [O : Opq] {E : Env} {P : Program} {B : Nat → Prop} {W0 : World} {σ : Sg} {V : Nat → Prop} {h h1 : MH} {w : World} {n f : Nat} {args : List MV} {v : MV} (hE : EnvOk E P) (R : Rel E.G B W0 σ V h w) (hw : wfs σ V args) (hr : run (pureE E h) n (.call f args) h = some (v, h1)) :
    Calls P f ⟨embs σ args⟩ w fun e w' => Below w.heap.size w w' ∧ ∃ σ', Agr V σ σ' ∧ e = .returned (emb σ' v) := by
  have hE' : EnvOk (pureE E h) P := ⟨hE.ty, hE.fns, hE.ext, hE.cmp, hE.mixed, hE.bo, hE.co⟩
  have R' : Rel (pureE E h).G (· < w.heap.size) w σ V h w := ⟨R.blk, R.inj, fun id b hv _ _ hg => absurd hg (Nat.not_le.2 (R.vx id hv)), R.glob, R.nx, R.vx, Nat.le_refl _, Kept.refl _ _⟩
  obtain ⟨F, -, -, hc⟩ := (run_ok (B := (· < w.heap.size)) (W0 := w) hE' orcIs_no (fun _ hk => hk) (fun go hgo => draw_ok hE' (fun _ hk => hk) hgo) n).1 f args h _ _ hr
  refine (hc _ _ w R' hw).mono ?_
  rintro e w' ⟨σ', V', a, -, -, -, R1, -, rfl⟩
  exact ⟨R1.below.below, σ', a, rfl⟩
end Go.MiniT
/- replica.require, both ways. -/
namespace Go.Proofs.YtidadlcknkeodaaGreatDoor
open Go.RowKit Go.WW
theorem require_yes (n : Int) (w : World) : Calls Tryz.prog 43 #[.bool true, .int .i64 n] w fun e w' => e = .returned (.tuple #[]) ∧ w' = w := by
  go_enter Tryz.func43, Tryz.ntmps43
  go_wp2_with fail
  go_end0
  exact ⟨rfl, rfl⟩
theorem require_no (n : Int) (w : World) : Calls Tryz.prog 43 #[.bool false, .int .i64 n] w fun e w' => e = .panicked [{ v := .iface 114 (.agg #[.int .i64 n]), recovered := false }] ∧ w' = w := by
  go_enter Tryz.func43, Tryz.ntmps43
  go_wp2_with fail
  refine ⟨rfl, ?_⟩
  exact ⟨rfl, rfl⟩
end Go.Proofs.YtidadlcknkeodaaGreatDoor
/- (*Replica).follow at one update that is valid and of another index. -/
namespace Go.Proofs.YtidadlcknkeodaaGreatDoor
open Go.RowKit Go.WW
attribute [local go_sem] loadUpdate
attribute [local go_sem ↓] execOp_loadUpdate
theorem require_two (n : Int) (w : World) : Calls Tryz.prog 43 #[.bool false, .int .i64 n] w fun e w' => (e = .panicked [{ v := .iface 114 (.agg #[.int .i64 n]), recovered := false }] ∧ w' = w) ∨ (e = .returned (.tuple #[]) ∧ w' = w ∧ Hid (1 = 2)) :=
  (require_no n w).mono fun _ _ h => .inl h
theorem follow_err (b o ub uo cap : Nat) (ix rx : Int) (v1 v2 v4 : Value) (U : Array Value) (w : World) (hU : U.size = 37) (hone : allOne U = true) (h0 : U[0]? = some (.int .i64 ix)) (hrow : row? w ub uo 37 = some U) (hc : w.cell? ⟨b, o + 1, none⟩ = some (.int .i64 rx)) (hne : (ix == IntKind.i64.wrap (IntKind.i64.wrap (rx + 1))) = false)
    (hv : ∀ w', Below w.heap.size w w' → Calls Tryz.prog 51 #[.agg U] w' fun e w'' => e = .returned (.bool true) ∧ Below w'.heap.size w' w'') :
    Calls Tryz.prog 45 #[.pointer (some ⟨b, o, none⟩), .agg #[.int .i64 2, v1, v2, .slice (some ⟨ub, uo, none⟩) 1 cap, v4]] w fun e w' => e = .panicked [{ v := .iface 114 (.agg #[.int .i64 8]), recovered := false }] ∧ Below w.heap.size w w' := by
  have HV := Lib.hid hv
  clear hv
  have hlt := row?_lt hrow
  have hltb := World.block_lt_of_cell? w _ hc
  go_enter Tryz.func45, Tryz.ntmps45
  go_wp2_with fail
  go_step3
  go_wp2_with fail
  refine (require_yes _ _).mono ?_
  rintro z w' ⟨rfl, rfl⟩
  dsimp only
  go_wp2_with fail
  refine wp_loop_rounds 2 ?_
  rw [rounds_succ]
  go_wp2_with fail
  have hb0 : Below w.heap.size w ((w.alloc (.cells #[.int .i64 2, v1, v2, .slice (some ⟨ub, uo, none⟩) 1 cap, v4] 67)).alloc (.cells U 36)) := ((Below.refl w.heap.size w).alloc (Nat.le_refl _) _).alloc (by simp) _
  refine (HV.out _ hb0).mono ?_
  rintro z w1 ⟨rfl, hb1⟩
  have hb := below_step hb0 hb1
  have hbox : w1.cell? ⟨w.heap.size, 3, none⟩ = some (.slice (some ⟨ub, uo, none⟩) 1 cap) := by
    rw [World.cell?, hb1.block _ (by simp; omega)]
    rw [Below.heap_alloc _ _ _ (by simp)]
    show (match (w.heap.push _)[w.heap.size]? with | some (.cells c _ _) => c[3]? | _ => none) = _
    rw [Array.getElem?_push_size]
    rfl
  have hrow1 : row? w1 ub uo 37 = some U := (row?_of_block (hb.block ub hlt) _ _).trans hrow
  have hc1 : w1.cell? ⟨b, o + 1, none⟩ = some (.int .i64 rx) := by rw [World.cell?, hb.block b hltb]; exact hc
  dsimp only
  go_wp2_with fail
  refine (require_yes _ _).mono ?_
  rintro z w' ⟨rfl, rfl⟩
  dsimp only
  go_wp2_with fail
  rw [rounds_succ]
  go_wp2_with fail
  refine wp_loop_rounds 1 ?_
  rw [rounds_succ]
  go_wp2_with fail
  have hcU : (w'.alloc (.cells U 36)).cell? ⟨w'.heap.size, 0, none⟩ = some (.int .i64 ix) := by rw [World.cell?_alloc_new]; exact h0
  have hcR : (w'.alloc (.cells U 36)).cell? ⟨b, o + 1, none⟩ = some (.int .i64 rx) := cell_past hc1 _
  have HB : Below w.heap.size w (w'.alloc (.cells U 36)).drew := (below_new hb _).drew
  go_region_held2 (fun x : World => x = (w'.alloc (.cells U 36)).drew) (first | rfl | assumption) (first | (go_at_call 43; refine (require_two _ _).mono ?_; rintro z w'' (⟨rfl, rfl⟩ | ⟨rfl, rfl, hF⟩); exact ⟨rfl, rfl, HB⟩))
  all_goals exact absurd (Hid.out (p := 1 = 2) (by assumption)) (by decide)
end Go.Proofs.YtidadlcknkeodaaGreatDoor
/- The oracle of (*Replica).Take, where one update is not the next. -/
namespace Go.MiniT
open Go Go.Mini Go.RowKit
noncomputable def isTrueR : Option (MV × MH) → Bool
  | some (.bool b, _) => b
  | _ => false
noncomputable def headInt : List MV → Option Int
  | .int .i64 n :: _ => some n
  | _ => none
noncomputable def orcTakeErr (E : Env) (n fT fV : Nat) : Orc := fun g args h =>
  cond (Nat.beq g fT) (match args with
    | [.ptr r o, .agg [.int .i64 (.ofNat kk), _, _, .slo u uo 0 1, _]] => cond (and (Nat.beq kk 2) (Nat.beq uo 0)) (match h.get r, h.get u with
      | some (.cells cs _ _ _), some (.cells us _ _ _) => match lget cs (Nat.add o 34), lget cs (Nat.add o 1), ltake 37 us with
        | some (.ptr _ _), some (.int .i64 rx), some U => match headInt U with
          | some ix => cond (and (not (ix == IntKind.i64.wrap (IntKind.i64.wrap (rx + 1)))) (isTrueR (run (pureE E h) n (.call fV [.agg U]) h))) (some (.int .i64 (.ofNat 8), h)) none
          | none => none
        | _, _, _ => none
      | _, _ => none) none
    | _ => none) none
end Go.MiniT
namespace Go.Proofs.YtidadlcknkeodaaGreatDoor
open Go Go.Mini Go.MiniT Go.RowKit Go.WW
theorem headInt_ok {l : List MV} {n : Int} (h : headInt l = some n) : l[0]? = some (.int .i64 n) := by
  unfold headInt at h
  split at h
  · cases h; rfl
  · cases h
theorem isTrueR_ok {x : Option (MV × MH)} (h : isTrueR x = true) : ∃ h1, x = some (.bool true, h1) := by
  unfold isTrueR at h
  split at h
  · rename_i b h1; subst h; exact ⟨h1, rfl⟩
  · cases h
theorem orcTakeErr_ok [O : Opq] {E : Env} {B : Nat → Prop} {W0 : World} (hE : EnvOk E Tryz.prog) (hW : ∀ k, B k → k < W0.heap.size) {n : Nat} : OrcIs E.G Tryz.prog B W0 (orcTakeErr E n 15 51) := by
  intro g args h v h' ho σ V w R hw
  unfold orcTakeErr at ho
  cases hg : Nat.beq g 15 with
  | false => rw [hg] at ho; cases ho
  | true =>
    rw [hg] at ho
    obtain rfl := Nat.eq_of_beq_eq_true hg
    simp only [cond_true] at ho
    split at ho
    · rename_i r o kk v1 v2 u uo v4
      cases hkk : and (Nat.beq kk 2) (Nat.beq uo 0) with
      | false => rw [hkk] at ho; cases ho
      | true =>
        rw [hkk] at ho
        obtain ⟨e1, e2⟩ := and2 hkk
        obtain rfl := Nat.eq_of_beq_eq_true e1
        obtain rfl := Nat.eq_of_beq_eq_true e2
        simp only [cond_true] at ho
        split at ho
        · rename_i cs t1 es1 o1 us t2 es2 o2 hr hu
          split at ho
          · rename_i d1 d2 rx U hd hx hU
            split at ho
            · rename_i ix hix
              cases hq : and (not (ix == IntKind.i64.wrap (IntKind.i64.wrap (rx + 1)))) (isTrueR (run (pureE E h) n (.call 51 [.agg U]) h)) with
              | false => rw [hq] at ho; cases ho
              | true =>
                rw [hq] at ho
                simp only [cond_true] at ho
                cases ho
                obtain ⟨q1, q2⟩ := and2 hq
                obtain ⟨h1, hrun⟩ := isTrueR_ok q2
                have hne : (ix == IntKind.i64.wrap (IntKind.i64.wrap (rx + 1))) = false := by simpa using q1
                rw [lget_eq] at hd hx
                obtain ⟨l1, l2⟩ := ltake_some hU
                simp only [wfs] at hw
                obtain ⟨hwr, hwa, -⟩ := hw
                simp only [wf, wfs] at hwr hwa
                have hwu := hwa.1.2.2.2.1
                obtain ⟨c, fz, k1, -, -, k4, -, -⟩ := R.blk r _ hwr hr
                obtain ⟨c2, fz2, m1, m2, m3, m4, -, -⟩ := R.blk u _ hwu.1 hu
                have hcell : w.cell? ⟨(σ r).blk, (σ r).off + o + 34, none⟩ = some (.pointer (some ⟨(σ d1).blk, (σ d1).off + d2, none⟩)) := by
                  have := k4 (o + 34) _ hd
                  simp only [emb, ← Nat.add_assoc] at this
                  simp [World.cell?, k1, this]
                have hcell1 : w.cell? ⟨(σ r).blk, (σ r).off + o + 1, none⟩ = some (.int .i64 rx) := by
                  have := k4 (o + 1) _ hx
                  simp only [emb, ← Nat.add_assoc] at this
                  simp [World.cell?, k1, this]
                have hUm : ∀ x ∈ U, x ∈ us := fun x hx => by rw [l2] at hx; exact List.mem_of_mem_take hx
                have hUw : wfs σ V U := (wfs_iff _).2 fun x hx => (wfs_iff _).1 m2 x (hUm x hx)
                have hUo : ones U = true := (ones_iff _).2 fun x hx => (ones_iff _).1 m3 x (hUm x hx)
                have hUl : U.length = 37 := by rw [l2, List.length_take]; omega
                have hrow : row? w (σ u).blk ((σ u).off + 0) 37 = some ⟨embs σ U⟩ := by
                  have hg : ∀ j, j < 37 → c2[(σ u).off + 0 + j]? = (embs σ U)[j]? := fun j hj => by
                    have hju : j < U.length := by omega
                    have : us[j]? = some (U[j]'hju) := by
                      have := List.getElem?_eq_getElem hju
                      rw [← this, l2, List.getElem?_take, if_pos hj]
                    rw [Nat.add_zero, m4 j _ this, embs_map, List.getElem?_map, List.getElem?_eq_getElem hju]; rfl
                  have hsz : (σ u).off + 0 + 37 ≤ c2.size := by
                    have h36 := hg 36 (by omega)
                    have : (embs σ U)[36]? = some ((embs σ U)[36]'(by rw [embs_map, List.length_map]; omega)) := List.getElem?_eq_getElem _
                    rw [this] at h36
                    have := (Array.getElem?_eq_some_iff.1 h36).1
                    omega
                  simp only [row?, m1]
                  rw [if_pos hsz]
                  refine congrArg some (Array.ext_getElem? fun j => ?_)
                  rw [Array.getElem?_extract, ← Array.getElem?_toList (xs := ⟨embs σ U⟩)]
                  by_cases hj : j < 37
                  · rw [if_pos (by omega)]; exact hg j hj
                  · rw [if_neg (by omega)]
                    exact (List.getElem?_eq_none (by rw [embs_map, List.length_map]; omega)).symm
                have hA : Below w.heap.size w (takeW w #[.int .i64 2, emb σ v1, emb σ v2, .slice (some ⟨(σ u).blk, (σ u).off + 0, none⟩) 1 ((σ u).cap - 0), emb σ v4]) := ((Below.refl w.heap.size w).alloc (Nat.le_refl _) _).alloc (by simp) _
                have hub : (σ u).blk < w.heap.size := row?_lt hrow
                have hrow2 := (row?_of_block (hA.block _ hub) ((σ u).off + 0) 37).trans hrow
                have hAs : (takeW w #[.int .i64 2, emb σ v1, emb σ v2, .slice (some ⟨(σ u).blk, (σ u).off + 0, none⟩) 1 ((σ u).cap - 0), emb σ v4]).heap.size = w.heap.size + 2 := by simp [takeW]
                have hF := follow_err (σ r).blk ((σ r).off + o) (σ u).blk ((σ u).off + 0) ((σ u).cap - 0) ix rx (emb σ v1) (emb σ v2) (emb σ v4) ⟨embs σ U⟩ _
                  (by show (embs σ U).length = 37; rw [embs_map, List.length_map]; exact hUl)
                  (Array.all_eq_true'.2 fun x hx => by
                    have hx : x ∈ embs σ U := by simpa using hx
                    rw [embs_map] at hx
                    obtain ⟨y, hy, rfl⟩ := List.mem_map.1 hx
                    exact one_emb σ ((ones_iff _).1 hUo y hy))
                  (by rw [← Array.getElem?_toList]; show (embs σ U)[0]? = _; rw [embs_map, List.getElem?_map, headInt_ok hix]; rfl)
                  hrow2 (cell_past (cell_past hcell1 _) _) hne
                  (fun w' hw' => by
                    have := pure_ok hE (R.grown hW (below_step hA hw')) (args := [.agg U]) (by simp only [wfs, wf]; exact ⟨⟨hUw, hUo⟩, trivial⟩) hrun
                    refine this.mono ?_
                    rintro e w'' ⟨hb, σ', -, rfl⟩
                    exact ⟨rfl, hb⟩)
                have HT := take2_err ⟨(σ r).blk, (σ r).off + o, none⟩ 8 (emb σ v1) (emb σ v2) (.slice (some ⟨(σ u).blk, (σ u).off + 0, none⟩) 1 ((σ u).cap - 0)) (emb σ v4) w (fun w' => Below w.heap.size w w') (rnone_c _ _ _ _ (cell_past (cell_past hcell _) _)) (hF.mono (by
                    rintro e w' ⟨rfl, hb⟩
                    refine ⟨rfl, below_step hA hb, ?_, ?_⟩
                    · rw [hb.cell (by rw [hAs]; exact Nat.lt_succ_self _)]
                      exact World.cell?_alloc_at _ _ _ _ (by simp)
                    · rw [hb.frozen (by rw [hAs]; exact Nat.lt_succ_self _)]
                      simp [takeW, go_sem]))
                refine HT.mono ?_
                rintro e w' ⟨rfl, w1, hb, rfl⟩
                exact endK_same (v := .int .i64 (.ofNat 8)) R hW ((below_new hb _).setCell (Nat.le_succ _) _) (by simp only [wf])
            · cases ho
          · cases ho
        · cases ho
    · cases ho
end Go.Proofs.YtidadlcknkeodaaGreatDoor
/- The sort of few entries: plain; rows of a block that are written. -/
namespace Go.WW
open Go.RowKit
section
variable {α β : Type} {c : β → β → Int} {k : α → β}
def Mid (c : β → β → Int) (k : α → β) (Y : List α) (i j : Nat) : Prop := ∃ A x B C, Y = A ++ x :: (B ++ C) ∧ A.length = j ∧ A.length + B.length = i ∧ Sorted c k (A ++ B) ∧ ∀ b ∈ B, c (k x) (k b) < 0
theorem mid_start {Y : List α} {i : Nat} (h : Sorted c k (Y.take i)) (hi : i < Y.length) : Mid c k Y i i :=
  ⟨Y.take i, Y[i], [], Y.drop (i + 1), by rw [List.nil_append, ← List.drop_eq_getElem_cons hi, List.take_append_drop], by simp; omega, by simp; omega, by simpa using h, by simp⟩
theorem mid_zero {Y : List α} {i : Nat} (h : Mid c k Y i 0) : Sorted c k (Y.take (i + 1)) := by
  obtain ⟨A, x, B, C, rfl, hA, hi, hs, hb⟩ := h
  have : A = [] := List.eq_nil_of_length_eq_zero hA
  subst this
  simp only [List.length_nil, Nat.zero_add, List.nil_append] at *
  subst hi
  rw [List.take_succ_cons, List.take_left']
  · exact List.pairwise_cons.2 ⟨hb, hs⟩
  · rfl
theorem mid_step {Y : List α} {i j : Nat} (h : Mid c k Y i (j + 1)) (h1 : j + 1 < Y.length) (hc : c (k Y[j + 1]) (k Y[j]) < 0) : Mid c k ((Y.set (j + 1) Y[j]).set j Y[j + 1]) i j := by
  obtain ⟨A, x, B, C, rfl, hA, hi, hs, hb⟩ := h
  obtain ⟨A', y, rfl⟩ : ∃ A' y, A = A' ++ [y] := ⟨A.dropLast, A.getLast (by intro e; subst e; simp at hA), (List.dropLast_concat_getLast _).symm⟩
  have hA' : A'.length = j := by simpa using hA
  subst hA'
  have e1 : (A' ++ [y] ++ x :: (B ++ C))[A'.length + 1] = x := by simp
  have e0 : (A' ++ [y] ++ x :: (B ++ C))[A'.length] = y := by simp
  rw [e1, e0] at hc
  refine ⟨A', x, y :: B, C, ?_, rfl, by simp at hi ⊢; omega, by simpa using hs, fun b hbm => ?_⟩
  · rw [e1, e0]
    simp
  · rcases List.mem_cons.1 hbm with rfl | hbm
    · exact hc
    · exact hb b hbm
theorem mid_stop (ht : TotalCmp c) {Y : List α} {i j : Nat} (h : Mid c k Y i (j + 1)) (h1 : j + 1 < Y.length) (hd : (Y.map k).Nodup) (hc : ¬ c (k Y[j + 1]) (k Y[j]) < 0) : Sorted c k (Y.take (i + 1)) := by
  obtain ⟨A, x, B, C, rfl, hA, hi, hs, hb⟩ := h
  obtain ⟨A', y, rfl⟩ : ∃ A' y, A = A' ++ [y] := ⟨A.dropLast, A.getLast (by intro e; subst e; simp at hA), (List.dropLast_concat_getLast _).symm⟩
  have hA' : A'.length = j := by simpa using hA
  subst hA'
  have e1 : (A' ++ [y] ++ x :: (B ++ C))[A'.length + 1] = x := by simp
  have e0 : (A' ++ [y] ++ x :: (B ++ C))[A'.length] = y := by simp
  rw [e1, e0] at hc
  have hne : k x ≠ k y := by
    intro e
    rw [List.map_append, List.map_append, List.map_cons, List.nodup_append] at hd
    exact hd.2.2 (k y) (by simp) (k x) (by simp) e.symm
  have hyx : c (k y) (k x) < 0 := by
    have h0 : c (k y) (k x) ≠ 0 := fun e0 => hne ((ht.zero _ _).1 e0).symm
    have := ht.anti (k y) (k x)
    omega
  have et : (A' ++ [y] ++ x :: (B ++ C)).take (i + 1) = (A' ++ [y]) ++ x :: B := by
    have e : A' ++ [y] ++ x :: (B ++ C) = ((A' ++ [y]) ++ x :: B) ++ C := by simp
    rw [e, List.take_left']
    simp at hi ⊢; omega
  rw [et]
  have hs' := List.pairwise_append.1 hs
  have hs1 := List.pairwise_append.1 hs'.1
  refine List.pairwise_append.2 ⟨hs'.1, List.pairwise_cons.2 ⟨hb, hs'.2.1⟩, fun a ha z hz => ?_⟩
  rcases List.mem_cons.1 hz with rfl | hz
  · rcases List.mem_append.1 ha with ha | ha
    · exact ht.trans _ _ _ (hs1.2.2 a ha y (by simp)) hyx
    · simp at ha; subst ha; exact hyx
  · exact hs'.2.2 a ha z hz
theorem swap_perm {Y : List α} {j : Nat} (h1 : j + 1 < Y.length) : ((Y.set (j + 1) Y[j]).set j Y[j + 1]).Perm Y := by
  have e : Y = Y.take j ++ Y[j] :: Y[j + 1] :: Y.drop (j + 2) := by
    conv => lhs; rw [← List.take_append_drop j Y, List.drop_eq_getElem_cons (by omega), List.drop_eq_getElem_cons h1]
  have hl : (Y.take j).length = j := by simp; omega
  generalize Y[j] = y at *
  generalize Y[j + 1] = x at *
  generalize Y.take j = A at *
  generalize Y.drop (j + 2) = C at *
  subst e
  subst hl
  simp
  exact (List.Perm.refl A).append (List.Perm.swap _ _ _)
end
/-! ### Rows of a block, written -/
theorem splice_same {c cs : Array Value} {o n : Nat} (hn : cs.size = n) (h : o + n ≤ c.size) : subRow (splice c o cs) o n = some cs := by
  subst hn
  unfold subRow
  rw [if_pos (by rw [splice_size h]; exact h)]
  congr 1
  apply Array.ext_getElem?
  intro i
  simp only [splice, Array.getElem?_extract, List.getElem?_toArray, List.getElem?_append, List.length_append, List.length_take, Array.length_toList, List.getElem?_take, List.getElem?_drop]
  have : min o c.size = o := by omega
  by_cases hi : i < cs.size
  · simp [this, hi, show ¬ o + i < o by omega, show o + i < o + cs.size by omega]
  · rw [if_neg (by omega), Array.getElem?_eq_none (by omega)]
theorem splice_apart {c cs : Array Value} {o o' n : Nat} (h : o + cs.size ≤ c.size) (ha : o' + n ≤ o ∨ o + cs.size ≤ o') : subRow (splice c o cs) o' n = subRow c o' n := by
  unfold subRow
  rw [splice_size h]
  split
  · congr 1
    apply Array.ext_getElem?
    intro i
    simp only [splice, Array.getElem?_extract, List.getElem?_toArray, List.getElem?_append, List.length_append, List.length_take, Array.length_toList, List.getElem?_take, List.getElem?_drop, Array.getElem?_toList]
    have hm : min o c.size = o := by omega
    have hsz : (List.take o c.toList ++ cs.toList ++ List.drop (o + cs.size) c.toList).length = c.size := by simp; omega
    by_cases hi : i < n
    · have h1 : i < min (o' + n) c.size - o' := by omega
      rcases ha with ha | ha
      · simp [hm, show o' + i < o by omega, show o' + i < o + cs.size by omega, show o + (cs.size + (c.size - (o + cs.size))) = c.size by omega]
      · simp [hm, show ¬ o' + i < o + cs.size by omega, show o + cs.size + (o' + i - (o + cs.size)) = o' + i by omega, show o + (cs.size + (c.size - (o + cs.size))) = c.size by omega]
    · rw [if_neg (by omega), if_neg (by omega)]
  · rfl
def Open (w : World) (g n : Nat) : Prop := ∃ c t, w.heap[g]? = some (.cells c t) ∧ n ≤ c.size
theorem Open.put {w : World} {g n o : Nat} {cs : Array Value} (h : Open w g n) (ho : o + cs.size ≤ n) : Open (putRow w g o cs) g n := by
  obtain ⟨c, t, hc, hn⟩ := h
  exact ⟨_, t, putRow_blk hc (by omega), by rw [splice_size (by omega)]; exact hn⟩
theorem Open.can {w : World} {g n o m : Nat} (h : Open w g n) (ho : o + m ≤ n) : canPut w g o m = true := by
  obtain ⟨c, t, hc, hn⟩ := h
  exact canPut_of_cells hc (by omega)
theorem Open.at {w w' : World} {g n : Nat} (h : Open w g n) (e : w'.heap[g]? = w.heap[g]?) : Open w' g n := by
  obtain ⟨c, t, hc, hn⟩ := h
  exact ⟨c, t, e.trans hc, hn⟩
theorem row_set {w : World} {g n o o' m : Nat} {cs : Array Value} (h : Open w g n) (ho : o + cs.size ≤ n) (ha : o' + m ≤ o ∨ o + cs.size ≤ o') : row? (putRow w g o cs) g o' m = row? w g o' m := by
  obtain ⟨c, t, hc, hn⟩ := h
  rw [row?_of_cells (putRow_blk hc (by omega)), row?_of_cells hc, splice_apart (by omega) ha]
theorem row_put {w : World} {g n o m : Nat} {cs : Array Value} (h : Open w g n) (hm : cs.size = m) (ho : o + m ≤ n) : row? (putRow w g o cs) g o m = some cs := by
  obtain ⟨c, t, hc, hn⟩ := h
  rw [row?_of_cells (putRow_blk hc (by omega)), splice_same hm (by omega)]
theorem encX_size (x : EE) : (encX x).size = 17 := rfl
theorem RowsX.put {w : World} {g : Nat} {Y : List EE} (h : RowsX w (some ⟨g, 0, none⟩) Y) (ho : Open w g (Y.length * 17)) {i : Nat} (hi : i < Y.length) (x : EE) : RowsX (putRow w g (0 + i * 17) (encX x)) (some ⟨g, 0, none⟩) (Y.set i x) := by
  refine ⟨by simpa using h.1, fun j hj => ?_⟩
  have hj' : j < Y.length := by simpa using hj
  have hs := encX_size x
  by_cases e : j = i
  · subst e
    exact ⟨g, 0, _, rfl, row_put ho (encX_size x) (by omega), x, by simp [hj'], rfl⟩
  · obtain ⟨b, o, cs, ha, hr, y, hy, rfl⟩ := h.2 j hj'
    cases ha
    refine ⟨g, 0, _, rfl, (row_set ho (by omega) (by omega)).trans hr, y, by rw [List.getElem?_set_ne (by omega)]; exact hy, rfl⟩
theorem But.put {S : Nat → Prop} {W w : World} {g o : Nat} {cs : Array Value} (h : But S W w) (hg : S g) : But S W (putRow w g o cs) :=
  h.trans ⟨by have := (setCells_below (Nat.le_refl g) cs.toList o w).os; exact this, (setCells_below (Nat.le_refl g) cs.toList o w).tape, (setCells_below (Nat.le_refl g) cs.toList o w).output, by rw [putRow_size]; exact Nat.le_refl _, fun k _ hn => putRow_other (fun e => hn (e ▸ hg))⟩
end Go.WW
/- strings.Compare, laid by the shelf's own program. -/
namespace Go.Proofs
open Go.Shelf
def Tryz.lays106_ren : Go.Shelf.Ren := ⟨fun | 106 => 116 | 213 => 182 | 265 => 236 | n => n, fun | 9 => 9 | 3 => 3 | n => n, fun | n => n⟩
theorem Tryz.lays106 : Go.Proofs.Lays.n106 Tryz.prog Tryz.lays106_ren := {
  mixed := by kernel_rfl
  f106 := Tryz.func116.trans (congrArg some (by kernel_rfl))
  f213 := Tryz.func182.trans (congrArg some (by kernel_rfl))
  f265 := Tryz.func236.trans (congrArg some (by kernel_rfl))
  t3 := Tryz.underlying3
  a3 := Tryz.isAgg3
  z3 := Tryz.sizeOf3
  v3 := Tryz.zeroValue3
  t9 := Tryz.underlying9
  a9 := Tryz.isAgg9
  z9 := Tryz.sizeOf9
  v9 := Tryz.zeroValue9 }
open Go.RowKit in
theorem Tryz.strings_Compare (a b : ByteArray) (w : World) :
    Calls Tryz.prog 116 #[.string a, .string b] w fun e w' => e = .returned (.int .i64 (Lib.compareBytes a.data.toList b.data.toList)) ∧ w' = w := Any.strings_Compare Tryz.lays106 a b w
end Go.Proofs
/- The order of policies; rows of policies in a block that is written. -/
namespace Go.WW
open Go.RowKit
theorem cmpB_eq : ∀ a b : List UInt8, Lib.compareBytes a b = if Op.bytesLess a b then -1 else if Op.bytesLess b a then 1 else 0
  | [], [] => by simp [Lib.compareBytes, Op.bytesLess]
  | [], _ :: _ => by simp [Lib.compareBytes, Op.bytesLess]
  | _ :: _, [] => by simp [Lib.compareBytes, Op.bytesLess]
  | a :: l, b :: m => by
    have ih := cmpB_eq l m
    unfold Lib.compareBytes Op.bytesLess
    by_cases h1 : a < b
    · simp [h1]
    · by_cases h2 : b < a
      · have hne : ¬ a = b := fun e => by subst e; exact h1 h2
        simp [h1, h2, hne]
      · have e : a = b := by
          apply UInt8.le_antisymm
          · exact UInt8.not_lt.1 h2
          · exact UInt8.not_lt.1 h1
        subst e
        simp [h1, ih]
theorem cmpB_T (a b : ByteArray) : Lib.compareBytes a.data.toList b.data.toList = cmpT a b := by
  unfold cmpT; rw [ByteArray.toList_eq, ByteArray.toList_eq]; exact cmpB_eq _ _
def RowsP (w : World) (a : Option Addr) (X : List Policy) : Prop := RowsAt w 10 a X.length fun i cs => ∃ x, X[i]? = some x ∧ cs = polC x
theorem RowsP.later {w w' : World} (h : Below w.heap.size w w') {a : Option Addr} {X : List Policy} (x : RowsP w a X) : RowsP w' a X := RowsAt.later h (fun _ _ y => y) x
theorem RowsP.at {w : World} {b o : Nat} {X : List Policy} (x : RowsP w (some ⟨b, o, none⟩) X) (i : Nat) (h : i < X.length) : row? w b (o + i * 10) 10 = some (polC X[i]) := by
  obtain ⟨b', o', cs, ha, hr, y, hy, rfl⟩ := x.2 i h
  cases ha
  rw [List.getElem?_eq_getElem h] at hy
  cases hy; exact hr
theorem RowsP.of_own {w : World} {base : Nat} {e : TypeId} {s : Sl} {X : List Policy} (h : Own w base e 10 s (X.map polC)) (hn : X.length ≤ lim) : RowsP w s.a X :=
  RowsAt.of_own h (by simp) hn (fun i hi => ⟨X[i]'(by simpa using hi), List.getElem?_eq_getElem (by simpa using hi), by simp⟩)
theorem RowsP.put {w : World} {g : Nat} {Y : List Policy} (h : RowsP w (some ⟨g, 0, none⟩) Y) (ho : Open w g (Y.length * 10)) {i : Nat} (hi : i < Y.length) (x : Policy) : RowsP (putRow w g (0 + i * 10) (polC x)) (some ⟨g, 0, none⟩) (Y.set i x) := by
  refine ⟨by simpa using h.1, fun j hj => ?_⟩
  have hj' : j < Y.length := by simpa using hj
  have hs := polC_size x
  by_cases e : j = i
  · subst e
    exact ⟨g, 0, _, rfl, row_put ho (polC_size x) (by omega), x, by simp [hj'], rfl⟩
  · obtain ⟨b, o, cs, ha, hr, y, hy, rfl⟩ := h.2 j hj'
    cases ha
    refine ⟨g, 0, _, rfl, (row_set ho (by omega) (by omega)).trans hr, y, by rw [List.getElem?_set_ne (by omega)]; exact hy, rfl⟩
theorem RowsP.block {w x : World} {g : Nat} {Y : List Policy} (h : RowsP w (some ⟨g, 0, none⟩) Y) (e : x.heap[g]? = w.heap[g]?) : RowsP x (some ⟨g, 0, none⟩) Y := by
  refine ⟨h.1, fun i hi => ?_⟩
  obtain ⟨b, o, cs, ha, hr, hy⟩ := h.2 i hi
  cases ha
  exact ⟨g, 0, cs, rfl, (row?_of_block e _ _).trans hr, hy⟩
theorem Own.openP {w : World} {base : Nat} {e : TypeId} {s : Sl} {rows : List (Array Value)} {g : Nat} (h : Own w base e 10 s rows) (hg : s.a = some ⟨g, 0, none⟩) : Open w g (rows.length * 10) := by
  rcases h.own.2 with ⟨hv, _⟩ | ⟨g', cap, cur, hv, _, hh, hle, _, hsz, _⟩
  · rw [hg] at hv; cases hv
  · have ha : s.a = some ⟨g', 0, none⟩ := by injection hv
    rw [hg] at ha; cases ha
    exact ⟨cur, e, hh, by rw [hsz]; exact Nat.mul_le_mul_right _ hle⟩
abbrev nameP (q : Policy) : ByteArray := q.name
end Go.WW
namespace Go.Proofs.YtidadlcknkeodaaGreatDoor
open Go.RowKit Go.WW
theorem elemPol27 : ElemOk Tryz.prog 53 34 10 88 := ElemOk.of Tryz.underlying53 (by kernel_rfl)
theorem policyLess_c (p q : Policy) (w : World) : Calls Tryz.prog 115 #[.agg (polC p), .agg (polC q)] w fun e w' => e = .returned (.int .i64 (cmpT p.name q.name)) ∧ Below w.heap.size w w' := by
  have hB : Below w.heap.size w ((w.alloc (.cells (polC p) 34)).alloc (.cells (polC q) 34)) := ((Below.refl _ _).alloc (Nat.le_refl _) _).alloc (by simp) _
  go_enter Tryz.func115, Tryz.ntmps115
  go_wp2_with fail
  refine (Tryz.strings_Compare _ _ _).mono ?_
  rintro e w' ⟨rfl, rfl⟩
  go_wp2_with fail
  go_ret
  exact ⟨by rw [cmpB_T]; rfl, hB⟩
end Go.Proofs.YtidadlcknkeodaaGreatDoor
/- The sort of few policies: slices.insertionSortCmpFunc. -/
namespace Go.WW
open Go.RowKit
def TypAt (w : World) (g : Nat) (T : TypeId) : Prop := ∃ c, w.heap[g]? = some (.cells c T)
theorem TypAt.put {w : World} {g n o : Nat} {T : TypeId} {cs : Array Value} (h : TypAt w g T) (ho : Open w g n) (hc : o + cs.size ≤ n) : TypAt (putRow w g o cs) g T := by
  obtain ⟨c, hc1⟩ := h
  obtain ⟨c', t', hc2, hn⟩ := ho
  rw [hc1] at hc2
  cases hc2
  exact ⟨_, putRow_blk hc1 (by omega)⟩
structure SortP (g : Nat) (X Y : List Policy) (w0 w : World) : Prop where
  perm : Y.Perm X
  but : But (· = g) w0 w
  rows : RowsP w (some ⟨g, 0, none⟩) Y
  opn : Open w g (Y.length * 10)
  typ : TypAt w g 34
theorem SortP.step {g : Nat} {X Y : List Policy} {w0 w w' : World} (h : SortP g X Y w0 w) (hb : Below w.heap.size w w') : SortP g X Y w0 w' := by
  obtain ⟨c, t, hc, _⟩ := h.opn
  have e := hb.block g (Array.getElem?_eq_some_iff.1 hc).1
  exact ⟨h.perm, h.but.trans (But.of_below hb), h.rows.later hb, h.opn.at e, by obtain ⟨c, hc⟩ := h.typ; exact ⟨c, e.trans hc⟩⟩
theorem SortP.drew {g : Nat} {X Y : List Policy} {w0 w : World} (h : SortP g X Y w0 w) : SortP g X Y w0 w.drew := h.step (Below.refl _ _).drew
theorem SortP.swap {g : Nat} {X Y : List Policy} {w0 w : World} (h : SortP g X Y w0 w) {j : Nat} (h1 : j + 1 < Y.length) : SortP g X ((Y.set (j + 1) Y[j]).set j Y[j + 1]) w0 (putRow (putRow w g ((j + 1) * 10) (polC Y[j])) g (j * 10) (polC Y[j + 1])) := by
  have r1 := h.rows.put h.opn h1 Y[j]
  have s1 := polC_size Y[j]
  have s2 := polC_size Y[j + 1]
  have o1 : Open (putRow w g (0 + (j + 1) * 10) (polC Y[j])) g (Y.length * 10) := h.opn.put (by omega)
  have r2 := r1.put (by simpa using o1) (i := j) (by simp; omega) Y[j + 1]
  rw [Nat.zero_add] at r2 o1
  rw [Nat.zero_add] at r2
  exact ⟨(swap_perm h1).trans h.perm, (h.but.put rfl).put rfl, r2, by simpa using o1.put (by omega), (h.typ.put h.opn (by omega)).put o1 (by omega)⟩
end Go.WW
namespace Go.Proofs.YtidadlcknkeodaaGreatDoor
open Go.RowKit Go.WW
theorem insertionP_c (g cap : Nat) (X : List Policy) (w : World) (hn : X.length ≤ 12) (hX : SortP g X X w w) (hD : (X.map nameP).Nodup) :
    Calls Tryz.prog 285 #[.slice (some ⟨g, 0, none⟩) X.length cap, .int .i64 0, .int .i64 X.length, .func (.func 115) #[] #[]] w fun e w' => e = .returned (.tuple #[]) ∧ ∃ Y, SortP g X Y w w' ∧ Sorted cmpT nameP Y := by
  have HD := Lib.hid hD
  clear hD
  go_enter Tryz.func285, Tryz.ntmps285
  go_wp2_with fail
  go_loopw [8] (fun iv wr => ∃ (i : Nat) (Y : List Policy), 1 ≤ i ∧ i ≤ 13 ∧ iv = .int .i64 i ∧ Hid (SortP g X Y w wr) ∧ Hid (Sorted cmpT nameP (Y.take i))) (fun iv _ => 13 - (intOf iv).toNat)
  case atStart => exact ⟨1, X, Nat.le_refl _, by omega, rfl, hX, by cases X <;> simp [Hid, Sorted]⟩
  case round =>
    obtain ⟨i, Y, h1, h13, rfl, hS, hso⟩ := hrel
    have HL := Lib.hid (hS.out.perm.length_eq)
    by_cases hlt : i < X.length
    · have hki : (i : Int) < (X.length : Int) := by omega
      have HM := Lib.hid (mid_start hso.out (by rw [HL.out]; exact hlt))
      go_wp2_with fail
      clear hso HL
      go_loopw [9] (fun jv wr => ∃ (j : Nat) (Y : List Policy), j ≤ i ∧ jv = .int .i64 j ∧ Hid (SortP g X Y w wr) ∧ Hid (Mid cmpT nameP Y i j)) (fun jv _ => (intOf jv).toNat)
      case atStart => exact ⟨i, Y, Nat.le_refl _, rfl, hS, HM⟩
      case round =>
        clear hS HM
        obtain ⟨j, Y, hj, rfl, hS, hM⟩ := hrel
        have HL := Lib.hid (hS.out.perm.length_eq)
        cases j with
        | zero =>
          have HZ := Lib.hid (mid_zero hM.out)
          go_wp2_with fail
          refine wp_region_later (Below.refl _ wr) (by kernel_rfl) (by kernel_rfl) ?_
          repeat (go_big_quiet_step (fail))
          refine wpQuiet_nil ?_
          intro w2 hb2
          have HS2 := Lib.hid (hS.out.step hb2)
          go_wp2_with fail
          go_roundw
          case rel => exact ⟨i + 1, Y, by omega, by omega, by go_num, HS2.out, HZ.out⟩
          case measure => simp [intOf]; omega
        | succ j =>
          have hjl : j + 1 < Y.length := by rw [HL.out]; omega
          have hji : (0 : Int) < ((j + 1 : Nat) : Int) := by omega
          have hjx : ((j + 1 : Nat) : Int) < (X.length : Int) := by omega
          have hr1 := hS.out.rows.at (j + 1) hjl
          have hr0 := hS.out.rows.at j (by omega)
          rw [Nat.zero_add] at hr1 hr0
          have hgw : g < wr.heap.size := row?_lt hr1
          by_cases hc : cmpT Y[j + 1].name Y[j].name < 0
          · have HM2 := Lib.hid (mid_step hM.out hjl hc)
            have HS2 := Lib.hid (fun w2 hb2 => ((hS.out.step (w' := w2) hb2)).drew.swap hjl)
            generalize Y[j + 1] = x at *
            generalize Y[j] = z at *
            go_wp2_with fail
            refine wp_region_later (Below.refl _ wr) (by kernel_rfl) (by kernel_rfl) ?_
            repeat (go_big_quiet_step ((go_at_call 115; rename_i xw; exact Calls.later_of (policyLess_c _ _ _))))
            refine wpQuiet_nil ?_
            intro w2 hb2
            go_wp2_with fail
            have hr1' : row? w2 g ((j + 1) * 10) 10 = some (polC x) := (row?_of_block (hb2.block g hgw) _ _).trans hr1
            have hr0' : row? w2 g (j * 10) 10 = some (polC z) := (row?_of_block (hb2.block g hgw) _ _).trans hr0
            have HO := Lib.hid (hS.out.step hb2).opn
            have hp1 : canPut w2 g ((j + 1) * 10) 10 = true := HO.out.can (by omega)
            have hp0 : canPut (putRow w2.drew g ((j + 1) * 10) (polC z)) g (j * 10) 10 = true := Open.can (n := Y.length * 10) (Open.put (HO.out.at rfl) (by show (j + 1) * 10 + 10 ≤ _; omega)) (by omega)
            have HS3 : Hid (SortP g X ((Y.set (j + 1) z).set j x) w (putRow (putRow w2.drew g ((j + 1) * 10) (polC z)) g (j * 10) (polC x))) := HS2.out w2 hb2
            clear hr1 hr0 HS2 HO
            refine T3.wp_region_sinceR (· = g) (But.refl _ w2) (by kernel_rfl) (by kernel_rfl) ?_
            repeat (first | (refine T3.text_skip (by rfl) ?_) | (refine T3.text_look (by rfl) (by rfl) (fun K hK => ?_); go_big_quiet_op; refine hK _ ?_; clear hK K) | (refine T3.text_read (by rfl) (by rfl) (fun K hK => ?_); go_wp2_with fail))
            refine T3.text_act (by rfl) (by rfl) (fun K hK => ?_)
            go_wp2_with fail
            have HB1 := Lib.hid (But.put (g := g) (o := (j + 1) * 10) (cs := polC z) (S := (· = g)) (But.refl _ w2).drew rfl)
            generalize putRow w2.drew g ((j + 1) * 10) (polC z) = V at *
            refine hK _ _ (sinceB_of HB1.out) ?_
            clear hK K
            repeat (first | (refine T3.text_skip (by rfl) ?_) | (refine T3.text_look (by rfl) (by rfl) (fun K hK => ?_); go_big_quiet_op; refine hK _ ?_; clear hK K) | (refine T3.text_read (by rfl) (by rfl) (fun K hK => ?_); go_wp2_with fail))
            refine T3.text_act (by rfl) (by rfl) (fun K hK => ?_)
            go_wp2_with fail
            have HB2 := Lib.hid (But.put (g := g) (o := j * 10) (cs := polC x) HB1.out rfl)
            generalize putRow V g (j * 10) (polC x) = U at *
            refine hK _ _ (sinceB_of HB2.out) ?_
            clear hK K
            repeat (first | (refine T3.text_skip (by rfl) ?_) | (refine T3.text_look (by rfl) (by rfl) (fun K hK => ?_); go_big_quiet_op; refine hK _ ?_; clear hK K) | (refine T3.text_read (by rfl) (by rfl) (fun K hK => ?_); go_wp2_with fail))
            refine T3.text_nil ?_
            go_wp2_with fail
            go_roundw
            case rel => exact ⟨j, (Y.set (j + 1) z).set j x, by omega, rfl, HS3, HM2⟩
            case measure => simp [intOf]
          · have HZ := Lib.hid (mid_stop cmpT_total hM.out hjl ((hS.out.perm.map nameP).nodup_iff.2 HD.out) hc)
            generalize Y[j + 1] = x at *
            generalize Y[j] = z at *
            go_wp2_with fail
            refine wp_region_later (Below.refl _ wr) (by kernel_rfl) (by kernel_rfl) ?_
            repeat (go_big_quiet_step ((go_at_call 115; rename_i xw; exact Calls.later_of (policyLess_c _ _ _))))
            refine wpQuiet_nil ?_
            intro w2 hb2
            have HS2 := Lib.hid (hS.out.step hb2)
            go_wp2_with fail
            go_roundw
            case rel => exact ⟨i + 1, Y, by omega, by omega, by go_num, HS2.out, HZ.out⟩
            case measure => simp [intOf]; omega
    · have hki : ¬ (i : Int) < (X.length : Int) := by omega
      go_wp2_with fail
      go_end0
      exact ⟨rfl, Y, hS.out, by have := hso.out; rwa [List.take_of_length_le (by rw [HL.out]; omega)] at this⟩
end Go.Proofs.YtidadlcknkeodaaGreatDoor
/- slices.SortFunc of few entries. -/
namespace Go.Proofs.YtidadlcknkeodaaGreatDoor
open Go.RowKit Go.WW
theorem len64_c (n : Nat) (hn : n ≤ 12) (w : World) : Calls Tryz.prog 294 #[.int .u64 (n : Int)] w fun e w' => (∃ k, e = .returned (.int .i64 k)) ∧ w = w' := by
  have h : n = 0 ∨ n = 1 ∨ n = 2 ∨ n = 3 ∨ n = 4 ∨ n = 5 ∨ n = 6 ∨ n = 7 ∨ n = 8 ∨ n = 9 ∨ n = 10 ∨ n = 11 ∨ n = 12 := by omega
  rcases h with rfl | rfl | rfl | rfl | rfl | rfl | rfl | rfl | rfl | rfl | rfl | rfl | rfl
  all_goals
    go_enter Tryz.func294, Tryz.ntmps294
    go_wp2
    go_ret
    exact ⟨⟨_, rfl⟩, rfl⟩
theorem blen_c (n : Nat) (hn : n ≤ 12) (w : World) : Calls Tryz.prog 235 #[.int .u64 (n : Int)] w fun e w' => (∃ k, e = .returned (.int .i64 k)) ∧ w = w' := by
  go_enter Tryz.func235, Tryz.ntmps235
  go_wp2_with fail
  refine (len64_c n hn w).mono ?_
  rintro e w' ⟨⟨k, rfl⟩, rfl⟩
  dsimp only
  go_wp2_with fail
  go_ret
  exact ⟨⟨_, rfl⟩, rfl⟩
theorem pdqP_c (g cap : Nat) (X : List Policy) (lm : Int) (w : World) (hn : X.length ≤ 12) (hX : SortP g X X w w) (hD : (X.map nameP).Nodup) :
    Calls Tryz.prog 234 #[.slice (some ⟨g, 0, none⟩) X.length cap, .int .i64 0, .int .i64 X.length, .int .i64 lm, .func (.func 115) #[] #[]] w fun e w' => e = .returned (.tuple #[]) ∧ ∃ Y, SortP g X Y w w' ∧ Sorted cmpT nameP Y := by
  have HI := Lib.hid (insertionP_c g cap X w hn hX hD)
  clear hX hD
  have h12 : (X.length : Int) ≤ 12 := by omega
  go_enter Tryz.func234, Tryz.ntmps234
  go_wp2_with fail
  refine wp_loop_rounds 1 ?_
  rw [rounds_succ]
  go_wp2_with fail
  refine HI.out.mono ?_
  rintro e w' ⟨rfl, hY⟩
  dsimp only
  go_wp2_with fail
  refine bodyPost_ret (results_none rfl _ _ _) rfl ⟨rfl, hY⟩
theorem sortFuncP_c (g cap : Nat) (X : List Policy) (w : World) (hn : X.length ≤ 12) (hX : SortP g X X w w) (hD : (X.map nameP).Nodup) :
    Calls Tryz.prog 181 #[.slice (some ⟨g, 0, none⟩) X.length cap, .func (.func 115) #[] #[]] w fun e w' => e = .returned (.tuple #[]) ∧ ∃ Y, SortP g X Y w w' ∧ Sorted cmpT nameP Y := by
  have HI := Lib.hid (fun lm => pdqP_c g cap X lm w hn hX hD)
  clear hX hD
  go_enter Tryz.func181, Tryz.ntmps181
  go_wp2_with fail
  refine (blen_c _ hn w).mono ?_
  rintro e w' ⟨⟨k, rfl⟩, rfl⟩
  dsimp only
  go_wp2_with fail
  refine (HI.out k).mono ?_
  rintro e w' ⟨rfl, hY⟩
  dsimp only
  go_wp2_with fail
  go_end0
  exact ⟨rfl, hY⟩
theorem insP_nil (w : World) : Calls Tryz.prog 285 #[.slice none 0 0, .int .i64 0, .int .i64 0, .func (.func 115) #[] #[]] w fun e w' => e = .returned (.tuple #[]) ∧ w = w' := by
  go_enter Tryz.func285, Tryz.ntmps285
  go_wp2_with fail
  refine wp_loop_rounds 1 ?_
  rw [rounds_succ]
  go_wp2_with fail
  go_end0
  exact ⟨rfl, rfl⟩
theorem pdqP_nil (lm : Int) (w : World) : Calls Tryz.prog 234 #[.slice none 0 0, .int .i64 0, .int .i64 0, .int .i64 lm, .func (.func 115) #[] #[]] w fun e w' => e = .returned (.tuple #[]) ∧ w = w' := by
  go_enter Tryz.func234, Tryz.ntmps234
  go_wp2_with fail
  refine wp_loop_rounds 1 ?_
  rw [rounds_succ]
  go_wp2_with fail
  refine (insP_nil w).mono ?_
  rintro e w' ⟨rfl, rfl⟩
  dsimp only
  go_wp2_with fail
  refine bodyPost_ret (results_none rfl _ _ _) rfl ⟨rfl, rfl⟩
theorem sortFuncP_nil (w : World) : Calls Tryz.prog 181 #[.slice none 0 0, .func (.func 115) #[] #[]] w fun e w' => e = .returned (.tuple #[]) ∧ w = w' := by
  go_enter Tryz.func181, Tryz.ntmps181
  go_wp2_with fail
  refine (blen_c 0 (by omega) w).mono ?_
  rintro e w' ⟨⟨k, rfl⟩, rfl⟩
  dsimp only
  go_wp2_with fail
  refine (pdqP_nil k w).mono ?_
  rintro e w' ⟨rfl, rfl⟩
  dsimp only
  go_wp2_with fail
  go_end0
  exact ⟨rfl, rfl⟩
end Go.Proofs.YtidadlcknkeodaaGreatDoor
/- database.inOrder[api.Policy], (*database.tables).entryList. -/
namespace Go.WW
open Go.RowKit
theorem But.past {S T : Nat → Prop} {w a b : World} (h : But S w a) (k : But T a b) (hT : ∀ j, T j → w.heap.size ≤ j) : But S w b :=
  ⟨k.os.trans h.os, k.tape.trans h.tape, k.output.trans h.output, Nat.le_trans h.size k.size, fun j hj hn => (k.block j (Nat.lt_of_lt_of_le hj h.size) (fun t => by have := hT j t; omega)).trans (h.block j hj hn)⟩
theorem lim_le : 12 ≤ lim := by simp [lim]
theorem below_but {S : Nat → Prop} {w a b : World} (h : Below w.heap.size w a) (k : But S a b) (hS : ∀ j, S j → w.heap.size ≤ j) : Below w.heap.size w b :=
  (((But.of_below (S := fun _ => False) h)).past k hS).below (Nat.le_refl _) (fun _ hf => hf.elim)
abbrev polM (E : List Policy) : List (ByteArray × Value) := E.map fun x => (x.name, Value.agg (polC x))
end Go.WW
namespace Go.Proofs.YtidadlcknkeodaaGreatDoor
open Go.RowKit Go.WW
def OutSortP (E : List Policy) (w : World) (z : Ending) (w' : World) : Prop := ∃ (s : Sl) (Y : List Policy), z = .returned (.slice s.a Y.length s.cap) ∧ Below w.heap.size w w' ∧ Y.Perm E ∧ Sorted cmpT nameP Y ∧ Dep w' (fresh w.heap.size w') (fun x => RowsP x s.a Y) ∧ (0 < Y.length → Y.length ≤ s.cap ∧ ∃ g, s.a = some ⟨g, 0, none⟩ ∧ w.heap.size ≤ g ∧ TypAt w' g 34)
theorem inOrderP_c (e : Nat) (E : List Policy) (w : World) (hm : MapOf w e (polM E)) (hn : E.length ≤ 12) (hD : (E.map nameP).Nodup) :
    Calls Tryz.prog 114 #[.map (some e), .func (.func 115) #[] #[]] w (OutSortP E w) := by
  obtain ⟨w1, hrange, hit, hb1, hs1⟩ := iter_start (P := Tryz.prog) Tryz.underlying138 hm
  have HD := Lib.hid hD
  have hel := hm.lt
  have hd0 : (polM E).length = E.length := by simp
  clear hD
  go_enter Tryz.func114, Tryz.ntmps114
  go_wp2_with fail
  clear hrange
  go_loopw [5] (fun lv wr => ∃ (so : Sl) (T left : List Policy), lv = .slice so.a T.length so.cap ∧ Hid (IterOf wr w.heap.size e (polM E) (polM left)) ∧ Hid ((T ++ left).Perm E) ∧ Go.WW.Own wr w1.heap.size 34 10 so (T.map polC) ∧ Below w.heap.size w wr ∧ w1.heap.size ≤ wr.heap.size ∧ (T = [] → so = ⟨none, 0⟩)) (fun lv _ => 13 - (match lv with | .slice _ k _ => k | _ => 0))
  case atStart => exact ⟨⟨none, 0⟩, [], E, rfl, hit, List.Perm.refl _, Go.WW.Own.nil _ _ _ _, hb1, Nat.le_refl _, fun _ => rfl⟩
  case round =>
    obtain ⟨so, T, left, rfl, hI, hp, hO, hbr, hsr, hnil⟩ := hrel
    have hlen : T.length + left.length = E.length := by have := hp.out.length_eq; simpa using this
    rcases iter_next (P := Tryz.prog) 0 hI.out with ⟨hl0, hrun⟩ | ⟨l1, x, l2, w2, hl, hrun, hent, hI2, hb2, hs2⟩
    · obtain rfl : left = [] := by cases left <;> simp_all
      have hTE : T.Perm E := by simpa using hp.out
      rcases Nat.eq_zero_or_pos T.length with hT0 | hT0
      · obtain rfl : T = [] := List.eq_nil_of_length_eq_zero hT0
        obtain rfl := hnil rfl
        go_wp2_with fail
        refine (sortFuncP_nil wr).mono ?_
        rintro z w' ⟨rfl, rfl⟩
        dsimp only
        go_wp2_with fail
        go_ret
        exact ⟨⟨none, 0⟩, [], rfl, hbr, hTE, List.Pairwise.nil, fun x _ => ⟨by simp [lim], fun i hi => by simp at hi⟩, fun h => absurd h (Nat.lt_irrefl _)⟩
      · obtain ⟨g, hga, hgb, hg0⟩ := hO.row 0 (by simpa using hT0)
        have hge := hO.base hgb
        obtain ⟨sa, sc⟩ := so
        obtain rfl : sa = some ⟨g, 0, none⟩ := hga
        have hSO : SortP g T T wr wr := ⟨List.Perm.refl _, But.refl _ _, RowsP.of_own hO (by have := lim_le; omega), by simpa using hO.openP rfl, by
          rcases hO.own.2 with ⟨hv, _⟩ | ⟨g', cap, cur, hv, _, hh, _⟩
          · cases hv
          · cases hv; exact ⟨cur, hh⟩⟩
        have hcap : T.length ≤ sc := by
          rcases hO.own.2 with ⟨hv, _⟩ | ⟨g', cap, cur, hv, _, hh, hle, _⟩
          · cases hv
          · cases hv; simpa using hle
        have HS := Lib.hid (sortFuncP_c g sc T wr (by omega) hSO ((hTE.map nameP).nodup_iff.2 HD.out) )
        clear hSO
        go_wp2_with fail
        refine HS.out.mono ?_
        rintro z w' ⟨rfl, Y, hY, hso⟩
        dsimp only
        go_wp2_with fail
        have hbw := below_but hbr hY.but (fun j (hj : j = g) => by omega)
        have hlY := hY.perm.length_eq
        have hg' : g < w'.heap.size := by have := hY.but.size; omega
        go_ret
        exact ⟨⟨some ⟨g, 0, none⟩, sc⟩, Y, by rw [hlY]; rfl, hbw, hY.perm.trans hTE, hso, fun x hx => hY.rows.block (hx g ⟨by omega, hg'⟩), fun _ => ⟨by rw [hlY]; exact hcap, g, rfl, by omega, hY.typ⟩⟩
    · obtain ⟨L1, L', hL, e1, e2⟩ := List.map_eq_append_iff.1 hl
      obtain ⟨y, L2, rfl, e3, e4⟩ := List.map_eq_cons_iff.1 e2
      subst e3 e1 e4 hL
      have hbw2 : Below w.heap.size w w2 := below_but hbr hb2 (fun j (hj : j = w.heap.size) => by omega)
      have hown : Go.WW.Own ((w2.alloc (.cells (polC y) 34)).alloc (.cells (polC y) 34)) w1.heap.size 34 10 so (T.map polC) := hO.kept fun g hg => by
        have hgb := hO.base hg
        rw [Below.heap_alloc _ _ _ (by simp; omega), Below.heap_alloc _ _ _ (by omega)]
        exact hb2.block g hgb.2 (show ¬ g = w.heap.size by omega)
      have hrun' : (Instr.next (.pointer (some ⟨w.heap.size, 0, none⟩)) false 0).run Tryz.prog wr = .ok (.tuple #[.bool true, .string (y.name), .agg (polC y)]) w2 := hrun
      have hent' : (Instr.entry (.pointer (some ⟨w.heap.size, 0, none⟩))).run Tryz.prog w2 = .ok (.tuple #[.string (y.name), .agg (polC y)]) w2 := hent
      have hsrc : SrcRows ((w2.alloc (.cells (polC y) 34)).alloc (.cells (polC y) 34)) 10 (some ⟨w2.heap.size + 1, 0, none⟩) [polC y] := by
        have := SrcRows.new (w2.alloc (.cells (polC y) 34)) (polC y) 34 10 (by simp [go_sem]) (by simp [go_sem])
        rwa [World.size_alloc] at this
      have HS2 := Lib.hid hs2
      clear hrun hent hs2
      go_wp2_with (at_builtin; refine wpList_append_n rfl (.tmp 14) (.tmp 16) _ rfl elemPol27 (n := T.length) (rows := T.map polC) (news := [polC y]) rfl (by simp) hown rfl rfl hsrc (by rw [List.length_map]; simp; omega) (by have := HS2.out; simp; omega) ?_; intro s3 w3 hown3 hg3 hat3)
      have hs2 := HS2.out
      have hbA : Below w.heap.size w ((w2.alloc (.cells (polC y) 34)).alloc (.cells (polC y) 34)) := below_new (below_new hbw2 _) _
      have hb3 : Below w.heap.size w w3 := hbA.grown hg3 hbA.size (fun g hg => by have := (hown.base hg).1; omega)
      have hs3 := hg3.size
      have hkp : ∀ k, k < w1.heap.size → w3.heap[k]? = w2.heap[k]? := fun k hk => by
        rw [hg3.block k (by simp; omega) (fun e => by have := (hown.base e.symm).1; omega), Below.heap_alloc _ _ _ (by simp; omega), Below.heap_alloc _ _ _ (by omega)]
      have HI3 := Lib.hid (hI2.at (hkp w.heap.size (by omega)) (hkp e (by omega)))
      have HP3 := Lib.hid (show ((T ++ [y]) ++ (L1 ++ L2)).Perm E from List.Perm.trans (by simpa using List.perm_middle.symm.append_left T) hp.out)
      have HO3 : Go.WW.Own w3 w1.heap.size 34 10 s3 ((T ++ [y]).map polC) := by rw [List.map_append]; exact hown3
      have hsz3 : w1.heap.size ≤ w3.heap.size := by simp at hs3; omega
      have hTl : T.length + 1 ≤ 12 := by simp at hlen; omega
      clear hown hown3 hg3 hat3 hI2 hb2 hbw2 hkp hbA hs3 HS2 hs2
      go_wp2_with fail
      go_roundw
      case rel => exact ⟨s3, T ++ [y], L1 ++ L2, by simp, by simpa [Hid] using HI3.out, HP3.out, HO3, hb3, hsz3, by simp⟩
      case measure => simp; omega
theorem policyList_c (b o p : Nat) (E : List Policy) (w : World) (hc : w.cell? ⟨b, o + 4, none⟩ = some (.map (some p))) (hm : MapOf w p (polM E)) (hn : E.length ≤ 12) (hD : (E.map nameP).Nodup) :
    Calls Tryz.prog 70 #[.pointer (some ⟨b, o, none⟩)] w (OutSortP E w) := by
  have HI := Lib.hid (inOrderP_c p E w hm hn hD)
  have hlt := World.block_lt_of_cell? w _ hc
  clear hD hm
  go_enter Tryz.func70, Tryz.ntmps70
  go_wp2_with fail
  refine HI.out.mono ?_
  rintro z w' ⟨sl, Y, rfl, hY⟩
  dsimp only
  go_wp2_with fail
  go_ret
  exact ⟨sl, Y, rfl, hY⟩
end Go.Proofs.YtidadlcknkeodaaGreatDoor
