/- Part 1 of the proof about watchword's lockout: texts Nil Z1 Z2 Z0 Z3 Z4. -/
import Derived.Test.YthompldjfobobaaGreatDoorGA
import Derived.RangeFuncNested
import Derived.RangeFuncBound
import Derived.RangeFuncCalls
import Derived.RangeFuncLeaves
import Derived.Shelf.Abstract
import Derived.Shelf.RegionOpen
import Derived.OwnWalkIn
import Derived.TacticsInMore
import Derived.LoopNIn
import Derived.LoopIn
import Derived.Scope
import Derived.Test.YthompldjfobobaaGreatDoorGS
import Derived.Test.YthompldjfobobaaGreatDoorGT

namespace Go.WW
open Go.RowKit
variable {F : Fence} {n : Nat} {P : Program}
section
variable {b : Frame} {a : Act} {k : List Item} {cs : List Frame} {w : World} {Q : Exit → Act → World → Prop}
theorem stepR_scope {c : Code} : step P (lone (b.atR a (.code (.scope c) :: k)) cs w) = .next (lone (b.atR a (.code c :: .inScope c :: k)) cs w) :=
  step_lone_go (by simp [stepG, stepG.exec, Frame.atR])
theorem stepR_inScope {c : Code} : step P (lone (b.atR a (.inScope c :: k)) cs w) = .next (lone (b.atR a k) cs w) :=
  step_lone_go (by simp [stepG, stepG.exec, Frame.atR])
/-- A scope through which the run goes without a jump. -/
theorem wpIn_scope_straight {c : Code} (h : c.wpIn F n P (Exit.noGoto Q) a w) : (Code.scope c).wpIn F n P Q a w := by
  intro b k cs hro hb hr
  have h0 : (lone (b.atR a (.code (.scope c) :: k)) cs w).fenced P F := fenced_calm hb hr rfl
  obtain ⟨e, a₁, w₁, hq, harr⟩ := h b (.inScope c :: k) cs hro hb hr
  cases e with
  | normal => exact ⟨.normal, a₁, w₁, hq, .head h0 stepR_scope (StepsIn.trans harr (.one (fenced_calm hb hr rfl) stepR_inScope))⟩
  | exit id =>
    have hx : exitTo id (.inScope c :: k) = exitTo id k := by simp [exitTo]
    exact ⟨.exit id, a₁, w₁, hq, fun k' hk => .head h0 stepR_scope (harr.1 k' (by rw [hx]; exact hk)), fun hr' hk => let ⟨k₁, h1, h2⟩ := harr.2 hr' (by rw [hx]; exact hk); ⟨k₁, h1, .head h0 stepR_scope h2⟩⟩
  | goto l => exact hq.elim
  | ret => exact ⟨_, a₁, w₁, hq, .of_steps (.one h0 stepR_scope) harr⟩
  | panic ch => exact ⟨_, a₁, w₁, hq, .of_steps (.one h0 stepR_scope) harr⟩
  | outgrown => exact ⟨_, a₁, w₁, hq, .of_steps (.one h0 stepR_scope) harr⟩
end
theorem wpIn_range_none {g : Operand} {ps : Array Tmp} {assign body : Code} {Q : Exit → Act → World → Prop} {a : Act} {w : World}
    (hro : F.round = none) (h1 : 1 ≤ n) {gf : Nat} {lb : Array Value} (hg : a.eval g = .func (.func gf) #[] lb) (hFg : F.fn gf) (eg : ∀ args w, (callFunc gf args).run P w = .ok (.enter gf args) w)
    (hcall : ∀ (l : Nat) (V : World), Below w.heap.size w V → CallsIn F (n - 1) P gf (#[.func (.yield l) #[] #[]] ++ lb) V fun e W' => (∃ v, e = .returned v) ∧ Below V.heap.size V W')
    (hdone : ∀ (D : Nat) (W : World), w.heap.size ≤ D → Below w.heap.size w W → W.heap[D]? = some (.deferred (some [])) → Q .normal { a with defers := { target := .collected D, args := #[] } :: a.defers } W) :
    (Code.rangeFunc g ps assign body).wpIn F n P Q a w := by
  refine wpIn_rangeFunc ?_
  intro fn hfn
  rw [hro]
  obtain ⟨lp, hlp⟩ : ∃ lp : LoopState → Option Code → Loop, lp = fun st pe => { state := st, pending := pe, fn, tmps := a.tmps, params := ps, assign, body, defers := w.heap.size } := ⟨_, rfl⟩
  obtain ⟨V, hV⟩ : ∃ V, (w.alloc (.deferred (some []))).alloc (.loop (lp .ready none)) = V := ⟨_, rfl⟩
  have hL : V.heap[w.heap.size + 1]? = some (.loop (lp .ready none)) := by
    have := World.alloc_heap_new (w.alloc (.deferred (some []))) (.loop (lp .ready none))
    rw [World.size_alloc, hV] at this; exact this
  have hD : V.heap[w.heap.size]? = some (.deferred (some [])) := by
    rw [← hV]; exact (Below.heap_alloc _ _ _ (by simp)).trans (World.alloc_heap_new w _)
  have hB : Below w.heap.size w V := by
    rw [← hV]; exact ((Below.refl _ w).alloc (Nat.le_refl _) _).alloc (by simp) _
  refine ⟨w.heap.size + 1, [{ target := .collected w.heap.size, args := #[] }], V, { target := .fn (.func gf) lb, args := #[.func (.yield (w.heap.size + 1)) #[] #[]] }, V, gf,
    #[.func (.yield (w.heap.size + 1)) #[] #[]] ++ lb, V, ?_, ?_, ?_, ?_, fun _ => h1, ?_⟩
  · rw [← hV, hlp]; exact run_enterLoop_outer _ _ _ _ _
  · simp only [resolve, hg]; simp [go_sem]
  · intro f' hf'; simp [Target.leads] at hf'; subst hf'; exact hFg
  · simp [invoke, go_sem, eg]
  · refine (hcall (w.heap.size + 1) V hB).mono ?_
    rintro e X ⟨⟨v, rfl⟩, hb⟩
    have hl := (hb.block (w.heap.size + 1) (Array.getElem?_eq_some_iff.1 hL).1).trans hL
    have hk := (hb.block w.heap.size (Array.getElem?_eq_some_iff.1 hD).1).trans hD
    have hBX := below_step hB hb
    exact ⟨none, _, by have := run_endLoop (P := P) hl (by rw [hlp]; simp); rw [hlp] at this; exact this, hdone _ _ (Nat.le_refl _) (hBX.trans (belowK_b (w := w) (Nat.le_refl _) _ _ _ _ (by omega) hl rfl rfl)) ((World.putObj_heap_other (by omega)).trans hk)⟩
end Go.WW

namespace Go.WW
open Go.RowKit
/-- A database that is none. -/
def NoDb (w : World) (v : Value) : Prop := v = .pointer none ∨ ∃ b, v = .pointer (some ⟨b, 0, none⟩) ∧ w.cell? ⟨b, 0, none⟩ = some (.string ⟨#[]⟩)
theorem NoDb.later {w w' : World} {v : Value} (h : NoDb w v) (hb : Below w.heap.size w w') : NoDb w' v := by
  rcases h with h | ⟨b, h, hc⟩
  · exact .inl h
  · exact .inr ⟨b, h, by rw [hb.cell (World.block_lt_of_cell? w _ hc)]; exact hc⟩
end Go.WW
namespace Go.Proofs.YthompldjfobobaaGreatDoor
open Go.RowKit Go.WW
theorem dbNone_c (v : Value) (w : World) (h : NoDb w v) : Calls Tryz.prog 56 #[v] w fun e w' => e = .returned (.bool true) ∧ w = w' := by
  rcases h with rfl | ⟨b, rfl, hc⟩
  · go_enter Tryz.func56, Tryz.ntmps56
    go_wp2
    go_ret
    exact ⟨rfl, rfl⟩
  · go_enter Tryz.func56, Tryz.ntmps56
    go_wp2
    go_ret
    exact ⟨rfl, rfl⟩
theorem dbRealm_c (v : Value) (w : World) (h : NoDb w v) : Calls Tryz.prog 35 #[v] w fun e w' => e = .returned (.string ⟨#[]⟩) ∧ w = w' := by
  go_enter Tryz.func35, Tryz.ntmps35
  go_wp2_with (go_at_call 56; refine (dbNone_c _ _ h).mono ?_; rintro e w' ⟨rfl, rfl⟩)
  go_ret
  exact ⟨rfl, rfl⟩
theorem dbEntries_c (v : Value) (w : World) (h : NoDb w v) : Calls Tryz.prog 30 #[v] w fun e w' => e = .returned (.func (.func 58) #[] #[.pointer (some ⟨w.heap.size, 0, none⟩)]) ∧ w' = w.alloc (.cells #[.slice none 0 0] 98) := by
  have h' := h.later ((Below.refl _ w).alloc (Nat.le_refl _) (.cells #[.slice none 0 0] 98))
  go_enter Tryz.func30, Tryz.ntmps30
  go_wp2_with (go_at_call 56; refine (dbNone_c _ _ h').mono ?_; rintro e w' ⟨rfl, rfl⟩)
  go_ret
  exact ⟨rfl, rfl⟩
theorem all_c (w : World) : Calls Tryz.prog 59 #[.slice none 0 0] w fun e w' => e = .returned (.func (.func 94) #[] #[.pointer (some ⟨w.heap.size, 0, none⟩)]) ∧ w' = w.alloc (.cells #[.slice none 0 0] 98) := by
  go_enter Tryz.func59, Tryz.ntmps59
  go_wp2
  go_ret
  exact ⟨rfl, rfl⟩
theorem all1_c (y : Value) (b : Nat) (w : World) (hc : w.cell? ⟨b, 0, none⟩ = some (.slice none 0 0)) : Calls Tryz.prog 94 #[y, .pointer (some ⟨b, 0, none⟩)] w fun e w' => (∃ v, e = .returned v) ∧ w = w' := by
  go_enter Tryz.func94, Tryz.ntmps94
  go_wp2
  refine wp_loop_rounds 1 ?_
  rw [rounds_succ]
  go_wp2
  go_end0
  exact ⟨⟨_, rfl⟩, rfl⟩
theorem accounts1_c (y : Value) (b : Nat) (w : World) (hc : w.cell? ⟨b, 0, none⟩ = some (.slice none 0 0)) : Calls Tryz.prog 33 #[y, .pointer (some ⟨b, 0, none⟩)] w fun e w' => (∃ v, e = .returned v) ∧ w = w' := by
  go_enter Tryz.func33, Tryz.ntmps33
  go_wp2
  refine wp_loop_rounds 1 ?_
  rw [rounds_succ]
  go_wp2
  go_end0
  exact ⟨⟨_, rfl⟩, rfl⟩
theorem record_c (v : Value) (s : Sl) (p : Prin) (ok : Bool) (now : Int) (w : World) (h : NoDb w v) : Calls Tryz.prog 16 #[v, .agg (prinC s p), .bool ok, .int .i64 now] w fun e w' => e = .returned (.int .i64 1) ∧ Below w.heap.size w w' := by
  have hB : Below w.heap.size w (w.alloc (.cells (prinC s p) 24)) := (Below.refl _ _).alloc (Nat.le_refl _) _
  have h' := h.later hB
  go_enter Tryz.func16, Tryz.ntmps16
  go_wp2_with (go_at_call 35; refine (dbRealm_c _ _ h').mono ?_; rintro e w' ⟨rfl, rfl⟩)
  go_ret
  exact ⟨rfl, hB⟩
attribute [local go_sem] Oper.semAt_some
set_option maxRecDepth 100000 in
set_option maxHeartbeats 400000 in
theorem entries1_c (l : Nat) (b : Nat) (w : World) (hc : w.cell? ⟨b, 0, none⟩ = some (.slice none 0 0)) : Calls Tryz.prog 58 #[.func (.yield l) #[] #[], .pointer (some ⟨b, 0, none⟩)] w fun e w' => (∃ v, e = .returned v) ∧ Below w.heap.size w w' := by
  have hlt : b < w.heap.size := World.block_lt_of_cell? w _ hc
  refine (callsIn_wide (n := 5)).1 ?_
  have h1 : 1 ≤ 5 := by omega
  refine callsIn_of_wp_marks Tryz.func58 rfl trivial ?_ rfl
  simp only [Tryz.ntmps58, List.size_toArray, List.length_cons, List.length_nil, Nat.reduceAdd, Nat.reduceSub, Array.replicate_succ, Array.replicate_zero, List.push_toArray, List.append_toArray, List.nil_append, List.cons_append]
  gi_wp2
  refine wpIn_scope_straight ?_
  gi_wp2
  refine wpIn_label ?_

  gi_wp2_with (refine ⟨trivial, ?_⟩; gi_at_call 59; refine (callsIn_wide.2 (all_c _)).mono ?_; rintro e w' ⟨rfl, rfl⟩)
  refine wpIn_range_none rfl h1 (gf := 94) (lb := #[.pointer (some ⟨w.heap.size + 1, 0, none⟩)]) (by simp [go_sem]) trivial (enters_of Tryz.func94 (by kernel_rfl) rfl) ?_ ?_
  · intro l V hV
    refine (callsIn_wide.2 (all1_c _ (w.heap.size + 1) V ?_)).mono ?_
    · rw [hV.cell (by simp)]; simp [go_sem]
    · rintro e W' ⟨hv, rfl⟩; exact ⟨hv, Below.refl _ _⟩
  · intro D W hD hb hK
    have hB : Below w.heap.size w W := ((((Below.refl _ w).alloc (Nat.le_refl _) _).alloc (by simp) _)).trans (hb.mono (by simp; omega))
    have hD' : w.heap.size ≤ D := by simp at hD; omega
    gi_wp2
    refine ⟨by simp, .inl ⟨_, _, rfl, run_takeDeferred hK, ?_⟩⟩
    refine ⟨.tuple #[], ?_, ⟨_, rfl⟩, hB.trans (belowK_b (w := w) (Nat.le_refl _) _ D _ _ hD' hK rfl rfl)⟩
    simp [results, Tryz.f58, go_sem]
set_option maxRecDepth 100000 in
set_option maxHeartbeats 400000 in
theorem accounts_nil (now : Int) (w : World) : Calls Tryz.prog 15 #[.pointer none, .int .i64 now] w fun e w' => ∃ b, e = .returned (.func (.func 33) #[] #[.pointer (some ⟨b, 0, none⟩)]) ∧ w'.cell? ⟨b, 0, none⟩ = some (.slice none 0 0) ∧ Below w.heap.size w w' := by
  refine (callsIn_wide (n := 5)).1 ?_
  have h1 : 1 ≤ 5 := by omega
  have hB0 : Below w.heap.size w (((w.alloc (.cells #[.pointer none] 45)).alloc (.cells #[.int .i64 now] 3)).alloc (.cells #[.slice none 0 0] 25)) := (((Below.refl _ _).alloc (Nat.le_refl _) _).alloc (by simp) _).alloc (by simp; omega) _
  have h' := NoDb.later (.inl rfl : NoDb w (.pointer none)) hB0
  refine callsIn_of_wp_marks Tryz.func15 rfl trivial ?_ rfl
  simp only [Tryz.ntmps15, List.size_toArray, List.length_cons, List.length_nil, Nat.reduceAdd, Nat.reduceSub, Array.replicate_succ, Array.replicate_zero, List.push_toArray, List.append_toArray, List.nil_append, List.cons_append]
  gi_wp2
  refine wpIn_scope_straight ?_
  gi_wp2
  refine wpIn_label ?_

  gi_wp2_with (refine ⟨trivial, ?_⟩; gi_at_call 30; refine (callsIn_wide.2 (dbEntries_c _ _ h')).mono ?_; rintro e w' ⟨rfl, rfl⟩)
  refine wpIn_range_none rfl h1 (gf := 58) (lb := #[.pointer (some ⟨w.heap.size + 1 + 1 + 1, 0, none⟩)]) (by simp [go_sem]) trivial (enters_of Tryz.func58 (by kernel_rfl) rfl) ?_ ?_
  · intro l V hV
    refine callsIn_wide.2 (entries1_c _ (w.heap.size + 1 + 1 + 1) V ?_)
    rw [hV.cell (by simp)]; simp [go_sem]
  · intro D W hD hb hK
    have hB : Below w.heap.size w W := (hB0.alloc hB0.size _).trans (hb.mono (by simp; omega))
    have hD' : w.heap.size + 1 + 1 + 1 < D := by simp at hD; omega
    have hc : W.cell? ⟨w.heap.size + 1 + 1, 0, none⟩ = some (.slice none 0 0) := by rw [hb.cell (by simp)]; simp [go_sem]
    gi_wp2
    refine ⟨by simp, .inl ⟨_, _, rfl, run_takeDeferred hK, ?_⟩⟩
    refine ⟨.func (.func 33) #[] #[.pointer (some ⟨w.heap.size + 1 + 1, 0, none⟩)], ?_, w.heap.size + 1 + 1, rfl, ?_, hB.trans (belowK_b (w := w) (Nat.le_refl _) _ D _ _ (by omega) hK rfl rfl)⟩
    · simp [results, Tryz.f15, go_sem]
    · exact cell_kept hc (grownBy_putObj' _ D (.deferred none)) (fun r e => by cases e; exact ⟨_, hK, rfl⟩)
set_option maxRecDepth 100000 in
set_option maxHeartbeats 400000 in
theorem accounts_zero (g : Nat) (now : Int) (w : World) (h : w.cell? ⟨g, 0, none⟩ = some (.string ⟨#[]⟩)) : Calls Tryz.prog 15 #[.pointer (some ⟨g, 0, none⟩), .int .i64 now] w fun e w' => ∃ b, e = .returned (.func (.func 33) #[] #[.pointer (some ⟨b, 0, none⟩)]) ∧ w'.cell? ⟨b, 0, none⟩ = some (.slice none 0 0) ∧ Below w.heap.size w w' := by
  refine (callsIn_wide (n := 5)).1 ?_
  have h1 : 1 ≤ 5 := by omega
  have hB0 : Below w.heap.size w (((w.alloc (.cells #[.pointer (some ⟨g, 0, none⟩)] 45)).alloc (.cells #[.int .i64 now] 3)).alloc (.cells #[.slice none 0 0] 25)) := (((Below.refl _ _).alloc (Nat.le_refl _) _).alloc (by simp) _).alloc (by simp; omega) _
  have h' := NoDb.later (.inr ⟨g, rfl, h⟩ : NoDb w (.pointer (some ⟨g, 0, none⟩))) hB0
  refine callsIn_of_wp_marks Tryz.func15 rfl trivial ?_ rfl
  simp only [Tryz.ntmps15, List.size_toArray, List.length_cons, List.length_nil, Nat.reduceAdd, Nat.reduceSub, Array.replicate_succ, Array.replicate_zero, List.push_toArray, List.append_toArray, List.nil_append, List.cons_append]
  gi_wp2
  refine wpIn_scope_straight ?_
  gi_wp2
  refine wpIn_label ?_

  gi_wp2_with (refine ⟨trivial, ?_⟩; gi_at_call 30; refine (callsIn_wide.2 (dbEntries_c _ _ h')).mono ?_; rintro e w' ⟨rfl, rfl⟩)
  refine wpIn_range_none rfl h1 (gf := 58) (lb := #[.pointer (some ⟨w.heap.size + 1 + 1 + 1, 0, none⟩)]) (by simp [go_sem]) trivial (enters_of Tryz.func58 (by kernel_rfl) rfl) ?_ ?_
  · intro l V hV
    refine callsIn_wide.2 (entries1_c _ (w.heap.size + 1 + 1 + 1) V ?_)
    rw [hV.cell (by simp)]; simp [go_sem]
  · intro D W hD hb hK
    have hB : Below w.heap.size w W := (hB0.alloc hB0.size _).trans (hb.mono (by simp; omega))
    have hD' : w.heap.size + 1 + 1 + 1 < D := by simp at hD; omega
    have hc : W.cell? ⟨w.heap.size + 1 + 1, 0, none⟩ = some (.slice none 0 0) := by rw [hb.cell (by simp)]; simp [go_sem]
    gi_wp2
    refine ⟨by simp, .inl ⟨_, _, rfl, run_takeDeferred hK, ?_⟩⟩
    refine ⟨.func (.func 33) #[] #[.pointer (some ⟨w.heap.size + 1 + 1, 0, none⟩)], ?_, w.heap.size + 1 + 1, rfl, ?_, hB.trans (belowK_b (w := w) (Nat.le_refl _) _ D _ _ (by omega) hK rfl rfl)⟩
    · simp [results, Tryz.f15, go_sem]
    · exact cell_kept hc (grownBy_putObj' _ D (.deferred none)) (fun r e => by cases e; exact ⟨_, hK, rfl⟩)
theorem accounts_c (v : Value) (now : Int) (w : World) (h : NoDb w v) : Calls Tryz.prog 15 #[v, .int .i64 now] w fun e w' => ∃ b, e = .returned (.func (.func 33) #[] #[.pointer (some ⟨b, 0, none⟩)]) ∧ w'.cell? ⟨b, 0, none⟩ = some (.slice none 0 0) ∧ Below w.heap.size w w' := by
  rcases h with rfl | ⟨g, rfl, h⟩
  · exact accounts_nil now w
  · exact accounts_zero g now w h
end Go.Proofs.YthompldjfobobaaGreatDoor

namespace Go.WW
open Go.RowKit
def nameR (s : Sl) : ERaw := ⟨s, ⟨none, 0⟩, ⟨none, 0⟩, ⟨none, 0⟩, ⟨none, 0⟩, ⟨none, 0⟩⟩
def nameD (p : Prin) : Entry := ⟨p, [], 0, 0, [], ⟨#[]⟩, 0, 0, 0, 0, 0, 0, 0, [], [], []⟩
theorem name_at {w : World} {s : Sl} {p : Prin} (h : PrinAt w s p) : EntAt w (nameR s) (nameD p) :=
  ⟨h, ⟨by simp [nameD, lim], fun i hi => by simp [nameD] at hi⟩, ⟨by simp [nameD, lim], fun i hi => by simp [nameD] at hi⟩, ⟨by simp [nameD, lim], fun i hi => by simp [nameD] at hi⟩, ⟨by simp [nameD, lim], fun i hi => by simp [nameD] at hi⟩, ⟨by simp [nameD, lim], fun i hi => by simp [nameD] at hi⟩, Nat.zero_le _, by simp [nameD]⟩
theorem blk_on {X w3 : World} {k : Nat} {o : Obj} (hb3 : Below X.heap.size X w3) (hX : X.heap[k]? = some o) : w3.heap[k]? = some o := (hb3.block k (Array.getElem?_eq_some_iff.1 hX).1).trans hX
theorem blk_facts {w : World} {b : Nat} {c : Array Value} {t : TypeId} (h : w.heap[b]? = some (.cells c t)) : (∀ o, w.cell? ⟨b, o, none⟩ = c[o]?) ∧ (∀ o, w.frozen? ⟨b, o, none⟩ = false) ∧ (∀ o n, row? w b o n = subRow c o n) ∧ (b < w.heap.size) :=
  ⟨fun o => by simp [World.cell?, h], fun o => by simp [World.frozen?, h], fun o n => by simp [row?, subRow, h], (Array.getElem?_eq_some_iff.1 h).1⟩
end Go.WW
namespace Go.Proofs.YthompldjfobobaaGreatDoor
open Go.RowKit Go.WW
theorem execOp_buildN (ρ : Operand → Value) (dst : Option Tmp) (x : Operand) (ty : TypeId) (pos : String) (after : Array Edge) (guard : Option (Nat × Bool)) : execOp ρ { dst, op := .build 31 #[(0, x)], type := ty, pos, after, guard } = structBuild 31 #[(0, ρ x)] := by simp [execOp, structBuild]
theorem buildN (w : World) (s : Sl) (p : Prin) : (structBuild 31 #[(0, .agg (prinC s p))]).run Tryz.prog w = .ok (.value (.agg (entC (nameR s) (nameD p)))) w := by kernel_rfl
/-- The boxes of the walk: the name, the result, the zero database, the list of the two. -/
structure NB (V : World) (A D L : Nat) (s : Sl) (p : Prin) : Prop where
  pr : V.heap[A]? = some (.cells (prinC s p) 24)
  rs : V.heap[A + 1]? = some (.cells #[.bool false] 4)
  db : V.heap[D]? = some (.cells #[.string ⟨#[]⟩, .int .i64 0, .map none, .map none, .map none] 52)
  ls : V.heap[L]? = some (.cells #[.pointer none, .pointer (some ⟨D, 0, none⟩)] 45)
theorem NB.later {V V' : World} {A D L : Nat} {s : Sl} {p : Prin} (h : NB V A D L s p) (hb : Below V.heap.size V V') : NB V' A D L s p := ⟨blk_on hb h.pr, blk_on hb h.rs, blk_on hb h.db, blk_on hb h.ls⟩
theorem NB.zero {V : World} {A D L : Nat} {s : Sl} {p : Prin} (h : NB V A D L s p) : NoDb V (.pointer (some ⟨D, 0, none⟩)) := .inr ⟨D, rfl, by rw [(blk_facts h.db).1]; rfl⟩
theorem seqNe (b : Nat) (w : World) : (binOp .eql 55 (.func (.func 33) #[] #[.pointer (some ⟨b, 0, none⟩)]) .nilFunc).run Tryz.prog w = .ok (.bool false) w := by kernel_rfl
attribute [local go_sem] buildN seqNe
attribute [local go_sem ↓] execOp_buildN
attribute [local go_sem] Oper.semAt_some
set_option maxRecDepth 100000 in
set_option maxHeartbeats 1000000 in
theorem none_walk (Φ : World → Sl → Prin → Prop) (HΦ : ∀ w w' s p, Φ w s p → Below w.heap.size w w' → Φ w' s p)
    (HL : ∀ (s : Sl) (p : Prin) (w : World), Φ w s p → Calls Tryz.prog 5 #[.agg (entC (nameR s) (nameD p))] w fun e w' => ∃ b, e = .returned (.bool b) ∧ Below w.heap.size w w')
    (HK : ∀ w : World, Calls Tryz.prog 6 #[] w fun e w' => e = .returned (.bool true) ∧ Below w.heap.size w w')
    (s : Sl) (p : Prin) (now : Int) (w : World) (hp : Φ w s p) : Calls Tryz.prog 4 #[.agg (prinC s p), .int .i64 now] w fun e w' => e = .returned (.bool true) ∧ Below w.heap.size w w' := by
  refine (callsIn_wide (n := 5)).1 ?_
  have h1 : 1 ≤ 5 := by omega
  have hB0 : Below w.heap.size w ((w.alloc (.cells (prinC s p) 24)).alloc (.cells #[.bool false] 4)) := ((Below.refl _ _).alloc (Nat.le_refl _) _).alloc (by simp) _
  refine callsIn_of_wp_marks Tryz.func4 rfl trivial ?_ rfl
  simp only [Tryz.ntmps4, List.size_toArray, List.length_cons, List.length_nil, Nat.reduceAdd, Nat.reduceSub, Array.replicate_succ, Array.replicate_zero, List.push_toArray, List.append_toArray, List.nil_append, List.cons_append]
  gi_wp2_with fail
  refine ⟨trivial, ?_⟩
  refine (callsIn_wide.2 (HL _ _ _ (HΦ _ _ _ _ hp hB0))).mono ?_
  rintro e v1 ⟨b, rfl, hy⟩
  have hb1 := below_step (Below.refl _ _) hy
  obtain ⟨hc, hf, hr⟩ := bcell hb1
  have hsz : w.heap.size + 1 < v1.heap.size := by have := hb1.size; simp at this; omega
  cases b
  case true =>
    dsimp only
    gi_wp2_with fail
    refine ⟨trivial, ?_⟩
    refine (callsIn_wide.2 (HK _)).mono ?_
    rintro e v2 ⟨rfl, hy2⟩
    have hb2 := below_step hb1 hy2
    clear hc hf hr
    obtain ⟨hc, hf, hr⟩ := bcell hb2
    dsimp only
    gi_wp2_with fail
    refine ⟨.bool true, ?_, rfl, (below_step hB0 hb2).setCell (p := ⟨w.heap.size + 1, 0, none⟩) (by simp) _⟩
    have hc5 := World.cell?_setCell_same' v2 ⟨w.heap.size + 1, 0, none⟩ (.bool true) (by rw [hc _ _ (by simp)]; simp [go_sem])
    simp [results, Tryz.f4, go_sem, hc5]
  dsimp only
  gi_wp2_with fail
  have hB1 := below_step hB0 hb1
  have nb : NB ((v1.alloc (.cells #[.string ⟨#[]⟩, .int .i64 0, .map none, .map none, .map none] 52)).alloc (.cells #[.pointer none, .pointer (some ⟨v1.heap.size, 0, none⟩)] 45)) w.heap.size v1.heap.size (v1.heap.size + 1) s p := by
    have hb2 : Below v1.heap.size v1 ((v1.alloc (.cells #[.string ⟨#[]⟩, .int .i64 0, .map none, .map none, .map none] 52)).alloc (.cells #[.pointer none, .pointer (some ⟨v1.heap.size, 0, none⟩)] 45)) := ((Below.refl _ _).alloc (Nat.le_refl _) _).alloc (by simp) _
    refine ⟨blk_on hb2 (blk_on hb1 ?_), blk_on hb2 (blk_on hb1 ?_), ?_, ?_⟩
    · rw [Below.heap_alloc _ _ _ (by simp)]; exact World.alloc_heap_new _ _
    · have := World.alloc_heap_new (w.alloc (.cells (prinC s p) 24)) (.cells #[.bool false] 4); simpa using this
    · rw [Below.heap_alloc _ _ _ (by simp)]; exact World.alloc_heap_new _ _
    · have := World.alloc_heap_new (v1.alloc (.cells #[.string ⟨#[]⟩, .int .i64 0, .map none, .map none, .map none] 52)) (.cells #[.pointer none, .pointer (some ⟨v1.heap.size, 0, none⟩)] 45); simpa using this
  have hBV : Below w.heap.size w ((v1.alloc (.cells #[.string ⟨#[]⟩, .int .i64 0, .map none, .map none, .map none] 52)).alloc (.cells #[.pointer none, .pointer (some ⟨v1.heap.size, 0, none⟩)] 45)) := below_step hB1 (((Below.refl _ _).alloc (Nat.le_refl _) _).alloc (by simp) _)
  generalize ((v1.alloc (.cells #[.string ⟨#[]⟩, .int .i64 0, .map none, .map none, .map none] 52)).alloc (.cells #[.pointer none, .pointer (some ⟨v1.heap.size, 0, none⟩)] 45)) = V at *
  clear hc hf hr hsz
  generalize v1.heap.size + 1 = L at *
  generalize v1.heap.size = Z at *
  clear hb1 hy hB1
  refine wpIn_loop_rounds 3 ?_
  rw [roundsIn_succ]
  obtain ⟨ca, fa, ra, la⟩ := blk_facts nb.pr
  obtain ⟨cb, fb, rb, lb⟩ := blk_facts nb.ls
  gi_wp2_with fail
  refine ⟨trivial, ?_⟩
  refine (callsIn_wide.2 (accounts_c _ now _ (.inl rfl))).mono ?_
  rintro e x1 ⟨b1, rfl, hq1, hy1⟩
  have nb1 := nb.later hy1
  clear ca fa ra la cb fb rb lb
  obtain ⟨ca, fa, ra, la⟩ := blk_facts nb1.pr
  obtain ⟨cb, fb, rb, lb⟩ := blk_facts nb1.ls
  dsimp only
  gi_wp2_with fail
  refine ⟨trivial, ?_⟩
  refine (callsIn_wide.2 (record_c _ s p true now _ (.inl rfl))).mono ?_
  rintro e y1 ⟨rfl, hz1⟩
  have mb1 := nb1.later hz1
  have hp1 : y1.cell? ⟨b1, 0, none⟩ = some (.slice none 0 0) := by rw [hz1.cell (World.block_lt_of_cell? _ _ hq1)]; exact hq1
  have hB1 := below_step (below_step hBV hy1) hz1
  clear ca fa ra la cb fb rb lb
  dsimp only
  gi_wp2_with fail
  refine wpIn_range_none rfl h1 (gf := 33) (lb := #[.pointer (some ⟨b1, 0, none⟩)]) (by simp [go_sem]) trivial (enters_of Tryz.func33 (by kernel_rfl) rfl) ?_ ?_
  · intro l U hU
    refine (callsIn_wide.2 (accounts1_c _ b1 U ?_)).mono ?_
    · rw [hU.cell (World.block_lt_of_cell? _ _ hp1)]; exact hp1
    · rintro e W' ⟨hv, rfl⟩; exact ⟨hv, Below.refl _ _⟩
  intro D1 U1 hD1 hb1 hK1
  have kb1 := mb1.later hb1
  have hE1 := below_step hB1 hb1
  gi_wp2_with fail
  rw [roundsIn_succ]
  obtain ⟨ca, fa, ra, la⟩ := blk_facts kb1.pr
  obtain ⟨cb, fb, rb, lb⟩ := blk_facts kb1.ls
  gi_wp2_with fail
  refine ⟨trivial, ?_⟩
  refine (callsIn_wide.2 (accounts_c _ now _ kb1.zero)).mono ?_
  rintro e x2 ⟨b2, rfl, hq2, hy2⟩
  have nb2 := kb1.later hy2
  clear ca fa ra la cb fb rb lb
  obtain ⟨ca, fa, ra, la⟩ := blk_facts nb2.pr
  obtain ⟨cb, fb, rb, lb⟩ := blk_facts nb2.ls
  dsimp only
  gi_wp2_with fail
  refine ⟨trivial, ?_⟩
  refine (callsIn_wide.2 (record_c _ s p true now _ nb2.zero)).mono ?_
  rintro e y2 ⟨rfl, hz2⟩
  have mb2 := nb2.later hz2
  have hp2 : y2.cell? ⟨b2, 0, none⟩ = some (.slice none 0 0) := by rw [hz2.cell (World.block_lt_of_cell? _ _ hq2)]; exact hq2
  have hB2 := below_step (below_step hE1 hy2) hz2
  clear ca fa ra la cb fb rb lb
  dsimp only
  gi_wp2_with fail
  refine wpIn_range_none rfl h1 (gf := 33) (lb := #[.pointer (some ⟨b2, 0, none⟩)]) (by simp [go_sem]) trivial (enters_of Tryz.func33 (by kernel_rfl) rfl) ?_ ?_
  · intro l U hU
    refine (callsIn_wide.2 (accounts1_c _ b2 U ?_)).mono ?_
    · rw [hU.cell (World.block_lt_of_cell? _ _ hp2)]; exact hp2
    · rintro e W' ⟨hv, rfl⟩; exact ⟨hv, Below.refl _ _⟩
  intro D2 U2 hD2 hb2 hK2
  have kb2 := mb2.later hb2
  have hE2 := below_step hB2 hb2
  gi_wp2_with fail
  rw [roundsIn_succ]
  gi_wp2_with fail
  refine ⟨trivial, ?_⟩
  refine (callsIn_wide.2 (HK _)).mono ?_
  rintro e v9 ⟨rfl, hy9⟩
  have nb9 := kb2.later hy9
  have hE9 := below_step hE2 hy9
  obtain ⟨ca, fa, ra, la⟩ := blk_facts nb9.rs
  have hKa := blk_on hy9 hK2
  have hKb := blk_on hy9 (blk_on hb2 (blk_on hz2 (blk_on hy2 hK1)))
  have hne : D1 ≠ D2 := by
    have h3 := (Array.getElem?_eq_some_iff.1 hK1).1
    have h4 := hy2.size
    have h5 := hz2.size
    omega
  dsimp only
  gi_wp2_with fail
  have hKa' := (KeepsOthers.setCell v9 ⟨w.heap.size + 1, 0, none⟩ (.bool true)).same D2 _ hKa rfl
  have hKb' := (KeepsOthers.setCell v9 ⟨w.heap.size + 1, 0, none⟩ (.bool true)).same D1 _ hKb rfl
  refine ⟨by simp, .inl ⟨_, _, rfl, run_takeDeferred hKa', ?_⟩⟩
  have hKb2 := (World.putObj_heap_other (w := v9.setCell ⟨w.heap.size + 1, 0, none⟩ (.bool true)) (o := .deferred none) hne).trans hKb'
  refine ⟨by simp, .inl ⟨_, _, rfl, run_takeDeferred hKb2, ?_⟩⟩
  have hc5 := cell_kept (cell_kept (World.cell?_setCell_same' v9 ⟨w.heap.size + 1, 0, none⟩ (.bool true) (by rw [ca]; rfl)) (grownBy_putObj' _ D2 (.deferred none)) (fun r e => by cases e; exact ⟨_, hKa', rfl⟩)) (grownBy_putObj' _ D1 (.deferred none)) (fun r e => by cases e; exact ⟨_, hKb2, rfl⟩)
  have hd2 : w.heap.size ≤ D2 := Nat.le_trans hB2.size hD2
  have hd1 : w.heap.size ≤ D1 := Nat.le_trans hB1.size hD1
  refine ⟨.bool true, ?_, rfl, ((hE9.setCell (p := ⟨w.heap.size + 1, 0, none⟩) (by simp) _).trans (belowK_b (w := w) (Nat.le_refl _) _ D2 _ _ hd2 hKa' rfl rfl)).trans (belowK_b (w := w) (Nat.le_refl _) _ D1 _ _ hd1 hKb2 rfl rfl)⟩
  simp [results, Tryz.f4, go_sem, hc5]
end Go.Proofs.YthompldjfobobaaGreatDoor

namespace Go.WW
open Go.RowKit
/-- A principal in memory, of any size. -/
def PrinU (w : World) (s : Sl) (p : Prin) : Prop := ∀ j (h : j < p.parts.length), ∃ b o, s.a = some ⟨b, o, none⟩ ∧ w.cell? ⟨b, o + j, none⟩ = some (.string p.parts[j])
theorem PrinU.later {w w' : World} {s : Sl} {p : Prin} (x : PrinU w s p) (h : Below w.heap.size w w') : PrinU w' s p := fun j hj => by
  obtain ⟨b, o, h1, h2⟩ := x j hj
  exact ⟨b, o, h1, by rw [h.cell (World.block_lt_of_cell? w _ h2)]; exact h2⟩
theorem PrinAt.u {w : World} {s : Sl} {p : Prin} (x : PrinAt w s p) : PrinU w s p := fun j hj => by
  obtain ⟨b, o, h1, h2, _⟩ := x.1.get j hj
  exact ⟨b, o, h1, h2⟩
end Go.WW
namespace Go.Proofs.YthompldjfobobaaGreatDoor
open Go.RowKit Go.WW
set_option maxRecDepth 100000 in
set_option maxHeartbeats 4000000 in
theorem large_u (r : ERaw) (d : Entry) (w : World) (hn : PrinU w r.parts d.name) (he : EntAt w { r with parts := ⟨none, 0⟩ } { d with name := ⟨[], ⟨#[]⟩⟩ }) : Calls Tryz.prog 5 #[.agg (entC r d)] w (SomeBool w) := by
  have hB : Below w.heap.size w (w.alloc (.cells (entC r d) 31)) := (Below.refl _ _).alloc (Nat.le_refl _) _
  obtain ⟨rA, lA, sA, qA⟩ := RowsAt.src he.aliases prinR_ok
  obtain ⟨rT, lT, sT, qT⟩ := RowsAt.src he.targets prinR_ok
  obtain ⟨rD, lD, sD, qD⟩ := RowsAt.src he.delegates prinR_ok
  have nA : d.aliases.length ≤ 4294967000 := he.aliases.1
  have nT : d.targets.length ≤ 4294967000 := he.targets.1
  have nD : d.delegates.length ≤ 4294967000 := he.delegates.1
  have nK : d.keys.length ≤ 4294967000 := he.keys.1
  have nP : d.policy.size ≤ 4294967000 := he.policy
  have nH : d.history.length ≤ 4294967000 := he.history.1
  have LA := Lib.hid lA
  have LT := Lib.hid lT
  have LD := Lib.hid lD
  have QA := Lib.hid qA
  have QT := Lib.hid qT
  have QD := Lib.hid qD
  clear lA lT lD qA qT qD
  go_enter Tryz.func5, Tryz.ntmps5
  go_wp2_with fail
  refine wp_region_since (Below.refl _ (w.alloc (.cells (entC r d) 31))) (by kernel_rfl) (by kernel_rfl) ?_
  intro w1 hb1
  obtain ⟨hc, hf, hr⟩ := bcell hb1
  have hsz : w.heap.size < w1.heap.size := by have := hb1.size; simp at this; omega
  repeat (first | (refine text_skip (by rfl) ?_) | (refine text_look (by rfl) (by rfl) (fun K hK => ?_); go_big_quiet_op; refine hK _ ?_; clear hK K))
  refine text_act (by rfl) (by rfl) (fun K hK => ?_)
  go_wp2_with fail
  have hb2 := below_new hb1 (.cells (prinC r.parts d.name) 24)
  have hown : Go.WW.Own (w1.alloc (.cells (prinC r.parts d.name) 24)) (w.alloc (.cells (entC r d) 31)).heap.size 24 2 ⟨some ⟨w1.heap.size, 0, none⟩, 1⟩ [prinC r.parts d.name] := by
    have h := Own.one w1 (prinC r.parts d.name) 24 2 (prinC_size _ _)
    exact ⟨⟨h.own.1, h.own.2.imp id fun ⟨g, cap, cur, h1, h2, h3⟩ => ⟨g, cap, cur, h1, Nat.le_trans hb1.size h2, h3⟩⟩, h.size⟩
  refine hK _ _ (since_of hb2) ?_
  clear hK K
  repeat (first | (refine text_skip (by rfl) ?_) | (refine text_look (by rfl) (by rfl) (fun K hK => ?_); go_big_quiet_op; refine hK _ ?_; clear hK K))
  refine text_act (by rfl) (by rfl) (fun K hK => ?_)
  refine wp_append_n (.tmp 9) (.tmp 11) _ rfl elemPrin (n := 1) (s := ⟨some ⟨w1.heap.size, 0, none⟩, 1⟩) rfl rfl hown rfl LA.out.symm (sA.later (below_step hB hb2)) (by rw [LA.out]; simp; omega) (by have := hb2.size; exact this) ?_
  intro s3 w3 hown3 hg3 hat3
  have hb3 := own_below hown hb2 hg3
  go_wp2_with fail
  refine hK _ _ (since_of hb3) ?_
  clear hK K
  repeat (first | (refine text_skip (by rfl) ?_) | (refine text_look (by rfl) (by rfl) (fun K hK => ?_); go_big_quiet_op; refine hK _ ?_; clear hK K))
  refine text_act (by rfl) (by rfl) (fun K hK => ?_)
  refine wp_append_n (.tmp 12) (.tmp 14) _ rfl elemPrin (n := 1 + d.aliases.length) (s := s3) rfl (by have := LA.out; simp [this]; omega) hown3 rfl LT.out.symm (sT.later (below_step hB hb3)) (by have := LA.out; rw [LT.out]; simp [this]; omega) (by have := hb3.size; exact this) ?_
  intro s4 w4 hown4 hg4 hat4
  have hb4 := own_below hown3 hb3 hg4
  go_wp2_with fail
  refine hK _ _ (since_of hb4) ?_
  clear hK K
  repeat (first | (refine text_skip (by rfl) ?_) | (refine text_look (by rfl) (by rfl) (fun K hK => ?_); go_big_quiet_op; refine hK _ ?_; clear hK K))
  refine text_act (by rfl) (by rfl) (fun K hK => ?_)
  refine wp_append_n (.tmp 15) (.tmp 17) _ rfl elemPrin (n := 1 + d.aliases.length + d.targets.length) (s := s4) rfl (by have := LA.out; have := LT.out; simp [*]; omega) hown4 rfl LD.out.symm (sD.later (below_step hB hb4)) (by have h1 := LA.out; have h2 := LT.out; rw [LD.out]; simp [h1, h2]; omega) (by have := hb4.size; exact this) ?_
  intro s5 w5 hown5 hg5 hat5
  have hb5 := own_below hown4 hb4 hg5
  go_wp2_with fail
  refine hK _ _ (since_of hb5) ?_
  clear hK K
  repeat (first | (refine text_skip (by rfl) ?_) | (refine text_look (by rfl) (by rfl) (fun K hK => ?_); go_big_quiet_op; refine hK _ ?_; clear hK K))
  refine text_nil ?_
  have hB5 := below_step hB hb5
  have hBW : Below (w.alloc (.cells (entC r d) 31)).heap.size (w.alloc (.cells (entC r d) 31)) w5 := hb5
  obtain ⟨N, hN⟩ : ∃ N, N = 1 + d.aliases.length + d.targets.length + d.delegates.length := ⟨_, rfl⟩
  rw [← hN]
  have hlr : ((([prinC r.parts d.name] ++ rA) ++ rT) ++ rD).length = N := by have h1 := LA.out; have h2 := LT.out; have h3 := LD.out; simp [h1, h2, h3]; omega
  have HLR := Lib.hid hlr
  have HN := Lib.hid hN
  clear hlr hN hc hf hr hsz hown hown3 hown4 hg3 hg4 hg5 hat3 hat4 hat5
  obtain ⟨hc, hf, hr⟩ := bcell hBW
  have hsz : w.heap.size < w5.heap.size := by have := hBW.size; simp at this; omega
  by_cases hbig : 13 < N
  · have hbig' : (13 : Int) < (N : Int) := by omega
    go_wp2_with fail
    all_goals go_ret
    all_goals exact ⟨_, rfl, hB5⟩
  have hbig' : ¬ (13 : Int) < (N : Int) := by omega
  have hall : ∀ cs ∈ (([prinC r.parts d.name] ++ rA) ++ rT) ++ rD, ∃ p s, cs = prinC s p ∧ PrinU w5 s p := by
    intro cs hcs
    simp only [List.mem_append, List.mem_singleton] at hcs
    rcases hcs with ((rfl | h) | h) | h
    · exact ⟨d.name, r.parts, rfl, hn.later hB5⟩
    · obtain ⟨i, hi, rfl⟩ := List.mem_iff_getElem.1 h
      obtain ⟨p, s, _, e, hp⟩ := QA.out i hi
      exact ⟨p, s, e, (hp.later hB5).u⟩
    · obtain ⟨i, hi, rfl⟩ := List.mem_iff_getElem.1 h
      obtain ⟨p, s, _, e, hp⟩ := QT.out i hi
      exact ⟨p, s, e, (hp.later hB5).u⟩
    · obtain ⟨i, hi, rfl⟩ := List.mem_iff_getElem.1 h
      obtain ⟨p, s, _, e, hp⟩ := QD.out i hi
      exact ⟨p, s, e, (hp.later hB5).u⟩
  have hP : RowsAt w5 2 s5.a N (fun _ cs => ∃ p s, cs = prinC s p ∧ PrinU w5 s p) := RowsAt.of_own hown5 HLR.out (by unfold lim; omega) (fun i hi => hall _ (List.getElem_mem hi))
  have hN1 : 0 < N := by have := HN.out; omega
  obtain ⟨g, o, -, ha, -⟩ := hP.2 0 hN1
  obtain ⟨s5a, s5c⟩ := s5
  dsimp only at ha
  subst ha
  have hrows : ∀ k, k < N → ∃ p s, w5.cell? ⟨g, o + k * 2, none⟩ = some (.slice s.a p.parts.length s.cap) ∧ w5.cell? ⟨g, o + k * 2 + 1, none⟩ = some (.string p.realm) ∧ PrinU w5 s p := fun k hk => by
    obtain ⟨b', o', cs, ha', hr', p, s, rfl, hp⟩ := hP.2 k hk
    cases ha'
    exact ⟨p, s, by have := row?_cell hr' 0 (by omega); simpa [go_sem] using this, by have := row?_cell hr' 1 (by omega); simpa [go_sem] using this, hp⟩
  have HR := Lib.hid hrows
  have hkeys := he.keys.later hB5
  clear hrows hP hall hown5
  go_wp2_with fail
  all_goals first
    | (go_ret; exact ⟨_, rfl, hB5⟩)
    | skip
  go_loop [4] (fun i => ∃ k : Nat, k ≤ N ∧ i = .int .i64 k) (fun i => N - (intOf i).toNat)
  case atStart => exact ⟨0, Nat.zero_le _, rfl⟩
  case round =>
    obtain ⟨k, hk, rfl⟩ := hrel
    by_cases hlt : k < N
    · obtain ⟨p, s, hq0, hq1, hp⟩ := HR.out k hlt
      have hgb : g < w5.heap.size := World.block_lt_of_cell? w5 _ hq0
      have hltI : (k : Int) < (N : Int) := by omega
      go_wp2_with fail
      all_goals first
        | (go_ret; exact ⟨_, rfl, hB5⟩)
        | skip
      go_loop [5] (fun i => ∃ j : Nat, j ≤ p.parts.length ∧ i = .int .i64 j) (fun i => p.parts.length - (intOf i).toNat)
      case atStart => exact ⟨0, Nat.zero_le _, rfl⟩
      case round =>
        obtain ⟨j, hj, rfl⟩ := hrel
        by_cases hjt : j < p.parts.length
        · obtain ⟨b2, o2, ha2, hc2⟩ := hp j hjt
          have hgb2 : b2 < w5.heap.size := World.block_lt_of_cell? w5 _ hc2
          rw [ha2] at hq0
          go_wp2_with fail
          all_goals first
            | (go_ret; exact ⟨_, rfl, hB5⟩)
            | (go_round
               case rel => exact ⟨j + 1, by omega, by go_num⟩
               case measure => simp [intOf]; omega)
        · go_wp2_with fail
          go_round
          case rel => exact ⟨k + 1, by omega, by go_num⟩
          case measure => simp [intOf]; omega
    · go_wp2_with fail
      go_loop [6] (fun i => ∃ k : Nat, k ≤ d.keys.length ∧ i = .int .i64 k) (fun i => d.keys.length - (intOf i).toNat)
      case atStart => exact ⟨0, Nat.zero_le _, rfl⟩
      case round =>
        obtain ⟨j, hj, rfl⟩ := hrel
        by_cases hjt : j < d.keys.length
        · obtain ⟨b2, o2, s2, ha2, hr2, hs2⟩ := hkeys.get j hjt
          have hgb2 : b2 < w5.heap.size := row?_lt hr2
          have hy1 : w5.cell? ⟨b2, o2 + j * 5 + 1, none⟩ = some (.slice s2.a d.keys[j].keys.length s2.cap) := by have := row?_cell hr2 1 (by omega); simpa [go_sem] using this
          have hy2 : w5.cell? ⟨b2, o2 + j * 5 + 2, none⟩ = some (.string d.keys[j].salt) := by have := row?_cell hr2 2 (by omega); simpa [go_sem] using this
          have hkl : d.keys[j].keys.length ≤ 4294967000 := hs2.1.1
          have hsl : d.keys[j].salt.size ≤ 4294967000 := hs2.2
          go_wp2_with fail
          all_goals first
            | (go_ret; exact ⟨_, rfl, hB5⟩)
            | (go_round
               case rel => exact ⟨j + 1, by omega, by go_num⟩
               case measure => simp [intOf]; omega)
        · go_wp2_with fail
          go_ret
          exact ⟨_, rfl, hB5⟩
end Go.Proofs.YthompldjfobobaaGreatDoor

namespace Go.Proofs.YthompldjfobobaaGreatDoor
open Go.RowKit Go.WW
theorem none_c (s : Sl) (p : Prin) (now : Int) (w : World) (hp : PrinU w s p) : Calls Tryz.prog 4 #[.agg (prinC s p), .int .i64 now] w fun e w' => e = .returned (.bool true) ∧ Below w.heap.size w w' :=
  none_walk PrinU (fun _ _ _ _ h hb => h.later hb) (fun s' p' w' h => large_u _ _ w' h (name_at (s := ⟨none, 0⟩) (p := ⟨[], ⟨#[]⟩⟩) ⟨⟨Nat.zero_le _, fun i hi => by simp at hi⟩, Nat.zero_le _⟩)) known_c s p now w hp
end Go.Proofs.YthompldjfobobaaGreatDoor

namespace Go.Proofs.YthompldjfobobaaGreatDoor
open Go.ChangeShapes Go.WideShapes Go.ChangeAt Go.RowKit Go.WW Go.Deep
section
variable {H : Type} {enc : TypeId × Value → H} {P : Program} {w : World} {base : Nat} {spare : Nat → Bool} {held : Bool}
theorem read_sliceU {t e : TypeId} {fuel k : Nat} {v : Value} {x : DataW H × List MemPlace} (ht : P.underlying t = some (.slice e)) (hC : P.cellsOf e = k) (h0 : 0 < k) (h : DataW.trod enc P w base spare held fuel t [v] = some x) :
    ∃ (s : Sl) (n : Nat), v = .slice s.a n s.cap ∧ ∀ i, i < n → ∃ b o cs fuel' y, s.a = some ⟨b, o, none⟩ ∧ row? w b (o + i * k) k = some cs ∧ DataW.trod enc P w base spare held fuel' e cs.toList = some y := by
  rcases open_slice ht h with ⟨hcs, rfl⟩ | ⟨a, len, cap, m, n, D, Pl, hcs, hba, hle, hmax, hm, hx, hel⟩
  · refine ⟨⟨none, 0⟩, 0, by simpa using hcs, fun i hi => by omega⟩
  · refine ⟨⟨some a, cap⟩, len, by simpa using hcs, fun i hi => ?_⟩
    have hml : len ≤ m := by rw [hm]; split <;> omega
    obtain ⟨c0, hc0, _⟩ := hel 0 (by omega)
    rw [hC] at hc0
    obtain ⟨_, hl0, hat0⟩ := World.cells?_some hc0
    have hspot : a.spot = none := by
      have h1 := hat0 0 h0
      rw [List.getElem?_eq_getElem (by omega)] at h1
      simp only [Nat.zero_mul, Addr.add, if_true] at h1
      unfold World.cell? at h1
      split at h1
      · split at h1
        · cases h1
        · rename_i hs; simpa using hs
      · cases h1
    obtain ⟨b, o, sp⟩ := a
    dsimp only at hspot
    subst hspot
    obtain ⟨cs', hc', ht'⟩ := hel i (by omega)
    rw [hC] at hc'
    obtain ⟨_, hl', hat'⟩ := World.cells?_some hc'
    refine ⟨b, o, cs'.toArray, n, (D i, Pl i), rfl, row?_of_all hl' h0 (fun j hj => ?_), by simpa using ht'⟩
    have h1 := hat' j hj
    rw [Addr.add_mid, Addr.add_mid] at h1
    exact h1
end
section
variable {H : Type} {enc : TypeId × Value → H} {w : World} {base : Nat} {spare : Nat → Bool} {held : Bool} {fuel : Nat} {x : DataW H × List MemPlace}
theorem field_ofU {P : Program} {T : TypeId} {fs : Array Field} {cs : List Value} (ht : P.underlying T = some (.struct fs)) (h : DataW.trod enc P w base spare held fuel T cs = some x) :
    cs.length = P.cellsOf T ∧ ∃ n, ∀ (i : Nat) (f : Field), fs[i]? = some f → ∃ y, DataW.trod enc P w base spare held n f.type ((cs.drop f.offset).take (P.cellsOf f.type)) = some y := by
  obtain ⟨xs, n, _, hx, hlen, hxl, hf⟩ := DataW.trod_struct ht h
  refine ⟨hlen, n, fun i f hi => ?_⟩
  have hil : i < xs.length := by rw [hxl]; exact (Array.getElem?_eq_some_iff.1 hi).1
  exact ⟨xs[i], by rw [hf i f hi, List.getElem?_eq_getElem hil]⟩
theorem read_strU {v : Value} (h : DataW.trod enc Tryz.prog w base spare held fuel 9 [v] = some x) : ∃ s : ByteArray, v = .string s := by
  obtain ⟨s, hs, hx, _⟩ := DataW.trod_string Tryz.underlying9 h
  exact ⟨s, by simpa using hs⟩
theorem read_strsU {v : Value} (h : DataW.trod enc Tryz.prog w base spare held fuel 22 [v] = some x) : ∃ (s : Sl) (l : List ByteArray), v = .slice s.a l.length s.cap ∧ ∀ j (hj : j < l.length), ∃ b o, s.a = some ⟨b, o, none⟩ ∧ w.cell? ⟨b, o + j, none⟩ = some (.string l[j]) := by
  obtain ⟨s, n, hv, hel⟩ := read_sliceU Tryz.underlying22 cellsStr (by omega) h
  obtain ⟨l, hl, hr⟩ := list_of (R := fun i (a : ByteArray) => ∃ b o, s.a = some ⟨b, o, none⟩ ∧ w.cell? ⟨b, o + i, none⟩ = some (.string a)) (n := n) (fun i hi => by
    obtain ⟨b, o, cs, f', y, ha, hrow, ht⟩ := hel i hi
    have hc := row?_cell hrow 0 (by omega)
    obtain ⟨c, hcs⟩ := list_1 (cs := cs.toList) (by simpa using row?_size hrow)
    rw [hcs] at ht
    obtain ⟨a, rfl⟩ := read_strU ht
    refine ⟨a, b, o, ha, ?_⟩
    have e : cs[0]? = some (.string a) := by rw [← Array.getElem?_toList, hcs]; rfl
    rw [e] at hc
    simpa using hc)
  exact ⟨s, l, by rw [hl]; exact hv, fun j hj => hr j l[j] (List.getElem?_eq_getElem hj)⟩
theorem read_prinU {cs : List Value} (h : DataW.trod enc Tryz.prog w base spare held fuel 24 cs = some x) : ∃ (s : Sl) (p : Prin), cs = (prinC s p).toList ∧ PrinU w s p := by
  obtain ⟨hl, n, hf⟩ := field_ofU Tryz.underlying24 h
  rw [cellsPrin] at hl
  obtain ⟨c0, c1, rfl⟩ := list_2 hl
  obtain ⟨y0, t0⟩ := hf 0 _ rfl
  replace t0 : DataW.trod enc Tryz.prog w base spare held n 22 (([c0, c1].drop 0).take (Tryz.prog.cellsOf 22)) = some y0 := t0
  rw [cellsSl1, take_one (c := c0) rfl] at t0
  obtain ⟨y1, t1⟩ := hf 1 _ rfl
  replace t1 : DataW.trod enc Tryz.prog w base spare held n 9 (([c0, c1].drop 1).take (Tryz.prog.cellsOf 9)) = some y1 := t1
  rw [cellsStr, take_one (c := c1) rfl] at t1
  obtain ⟨s0, n0, rfl, hs0⟩ := read_strsU t0
  obtain ⟨n1, rfl⟩ := read_strU t1
  exact ⟨s0, ⟨n0, n1⟩, rfl, hs0⟩
set_option maxRecDepth 2000000 in
theorem arg_prin {W : World} {b0 : Nat} {v : Value} {d : DataW H} {p : List MemPlace} (hv : Value.okWide Tryz.prog W .any b0 24 v) (h : DataW.Trod enc Tryz.prog W 0 (fun _ => true) true 24 v d p) :
    ∃ (s : Sl) (q : Prin), v = .agg (prinC s q) ∧ PrinU W s q := by
  obtain ⟨cs, rfl, _⟩ := okWide_struct Tryz.underlying24 hv
  obtain ⟨fuel, hf⟩ := h
  obtain ⟨s, q, he, hat⟩ := read_prinU hf
  have h1 : cs = prinC s q := Array.toList_inj.1 he
  exact ⟨s, q, by rw [h1], hat⟩
end
theorem readPrin : Tryz.prog.readableRec 24 = true := by kernel_rfl
theorem ltPrin : 24 < Tryz.prog.types.size := of_decide_eq_true (by kernel_rfl)
end Go.Proofs.YthompldjfobobaaGreatDoor
