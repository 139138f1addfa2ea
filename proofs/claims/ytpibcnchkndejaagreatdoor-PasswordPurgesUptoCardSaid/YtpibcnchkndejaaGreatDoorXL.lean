/- slices.Values over numbers: its items. -/
import Derived.Test.YtpibcnchkndejaaGreatDoorXK
import Derived.Test.YtpibcnchkndejaaGreatDoorXI
import Derived.Test.YtpibcnchkndejaaGreatDoorXA
import Derived.RangeFuncNested
import Derived.RangeFuncBound
import Derived.RangeFuncCalls
import Derived.RangeFuncLeaves
import Derived.Shelf.Abstract
import Derived.Shelf.RegionOpen
import Derived.OwnWalkIn
import Derived.TacticsInMore
import Derived.LoopNIn
import Derived.LoopIn
import Derived.Scope
namespace Go.WW
open Go.RowKit
/-- Blocks of w that are as they were, but S. -/
abbrev OffI (S : Nat → Prop) (w : World) : Nat → Prop := fun k => S k ∨ w.heap.size ≤ k
theorem box_facts {w : World} {b : Nat} {c : Array Value} {t : TypeId} (h : w.heap[b]? = some (.cells c t)) : (∀ o, w.cell? ⟨b, o, none⟩ = c[o]?) ∧ (∀ o, w.frozen? ⟨b, o, none⟩ = false) ∧ (∀ o n, row? w b o n = subRow c o n) ∧ (b < w.heap.size) :=
  ⟨fun o => cell_of_row w b o c t _ h, fun o => frozen_of_row w b o c t h, fun _ _ => row?_of_cells h, (Array.getElem?_eq_some_iff.1 h).1⟩
theorem still_blk {X w3 : World} {k : Nat} {o : Obj} (hb3 : Below X.heap.size X w3) (hX : X.heap[k]? = some o) : w3.heap[k]? = some o := (hb3.block k (Array.getElem?_eq_some_iff.1 hX).1).trans hX
def VI (_ : Nat) (x : Int) (v : Array Value) (_ _ : World) : Prop := v = #[.int .i64 x]
end Go.WW
namespace Go.Proofs.YtpibcnchkndejaaGreatDoor
open Go.RowKit Go.WW
attribute [local go_sem] Oper.semAt_some
theorem valuesI_c (a : Option Addr) (n cap : Nat) (w : World) : Calls Tryz.prog 29 #[.slice a n cap] w fun e w' => e = .returned (.func (.func 88) #[] #[.pointer (some ⟨w.heap.size, 0, none⟩)]) ∧ w' = w.alloc (.cells #[.slice a n cap] 40) := by
  go_enter Tryz.func29, Tryz.ntmps29
  go_wp2
  go_ret
  exact ⟨rfl, rfl⟩
set_option maxRecDepth 100000 in
set_option maxHeartbeats 1000000 in
theorem valuesI1_seq (b cap : Nat) (a : Option Addr) (X : List Int) (S : Nat → Prop) (w : World) (hc : w.cell? ⟨b, 0, none⟩ = some (.slice a X.length cap)) (hL : ∀ y, But (OffI S w) w y → IntsAt y a X) :
    SeqB Tryz.prog 88 #[.pointer (some ⟨b, 0, none⟩)] S X VI w := by
  intro l J Jx W hW hl1 hl2 h0 hJ hJx hY
  have hn : X.length ≤ 4294967000 := (hL w (But.refl _ _)).1
  have hcW : W.cell? ⟨b, 0, none⟩ = some (.slice a X.length cap) := (hW.cell (World.block_lt_of_cell? w _ hc)).trans hc
  have hWB : But (OffI S w) w W := But.of_below hW
  have HJ := Lib.hid hJ
  have HJx := Lib.hid hJx
  have HY := Lib.hid hY
  have HL := Lib.hid hL
  have H0 := Lib.hid (h0 W.heap.size W (Nat.le_refl _) (Nat.le_refl _) (Below.refl _ _))
  clear hJ hJx hY hL h0
  refine (callsIn_wide (n := 0)).1 ?_
  refine callsIn_of_wp Tryz.func88 rfl trivial ?_ rfl
  simp only [Tryz.ntmps88, List.size_toArray, List.length_cons, List.length_nil, Nat.reduceAdd, Nat.reduceSub, Array.replicate_succ, Array.replicate_zero, List.push_toArray, List.append_toArray, List.nil_append, List.cons_append]
  rcases Nat.eq_zero_or_pos X.length with hX | hX
  · obtain rfl : X = [] := List.eq_nil_of_length_eq_zero hX
    gi_wp2
    refine wpIn_loop_rounds 1 ?_
    rw [roundsIn_succ]
    gi_wp2
    go_end0
    exact ⟨⟨_, rfl⟩, .inl ⟨_, H0.out⟩⟩
  obtain ⟨B, o, rfl, -⟩ := (HL.out w (But.refl _ _)).get 0 hX
  gi_wp2
  gi_loopw [7] (fun iv wr => ∃ i : Nat, i ≤ X.length ∧ iv = .int .i64 i ∧ Hid (J W.heap.size i wr) ∧ Hid (But (OffI S w) w wr) ∧ W.heap.size ≤ wr.heap.size) (fun iv _ => X.length - (intOf iv).toNat)
  case atStart => exact ⟨0, Nat.zero_le _, rfl, H0, hWB, Nat.le_refl _⟩
  case round =>
    obtain ⟨i, hi, rfl, hj, hbu, hsz⟩ := hrel
    by_cases hlt : i < X.length
    · have hki : (i : Int) < (X.length : Int) := by omega
      have hr := (HL.out wr hbu.out).at i hlt
      have hx : X[i]? = some X[i] := by simp [hlt]
      generalize X[i] = x at *
      obtain ⟨fn, tmps, assign, body, hy, hR⟩ := HY.out W.heap.size i x #[.int .i64 x] wr wr hx hj.out (But.refl _ _) rfl (Nat.le_refl _) hsz
      gi_wp2
      refine ⟨rfl, hR.mono ?_⟩
      rintro e W3 ⟨hb3, h3⟩
      have HB3 := Lib.hid (show But (OffI S w) w W3 from hbu.out.trans (hb3.mono fun k hk => by
        rcases hk with (hk | rfl) | hk
        · exact .inl hk
        · exact .inr hl1
        · exact .inr (Nat.le_trans hW.size hk)))
      have HS3 : W.heap.size ≤ W3.heap.size := by have := hb3.size; omega
      clear hy hR hb3
      rcases h3 with ⟨rfl, hj3⟩ | ⟨rfl, hx3⟩
      · have HJ3 := Lib.hid hj3
        clear hj3
        gi_wp2
        go_roundw
        case rel => exact ⟨i + 1, by omega, by go_num, HJ3.out, HB3.out, HS3⟩
        case measure => simp [intOf]; omega
      · have HJ3 := Lib.hid hx3
        clear hx3
        gi_wp2
        refine bodyPost_ret (results_none rfl _ _ _) rfl ?_
        exact ⟨⟨_, rfl⟩, .inr ⟨_, _, HJ3.out⟩⟩
    · obtain rfl : i = X.length := by omega
      gi_wp2
      go_end0
      exact ⟨⟨_, rfl⟩, .inl ⟨_, hj.out⟩⟩
end Go.Proofs.YtpibcnchkndejaaGreatDoor
/- A range over a function that hands on nothing. -/
namespace Go.WW
open Go.RowKit
variable {F : Fence} {n : Nat} {P : Program}
section
variable {b : Frame} {a : Act} {k : List Item} {cs : List Frame} {w : World} {Q : Exit → Act → World → Prop}
theorem stepR_scope {c : Code} : step P (lone (b.atR a (.code (.scope c) :: k)) cs w) = .next (lone (b.atR a (.code c :: .inScope c :: k)) cs w) :=
  step_lone_go (by simp [stepG, stepG.exec, Frame.atR])
theorem stepR_inScope {c : Code} : step P (lone (b.atR a (.inScope c :: k)) cs w) = .next (lone (b.atR a k) cs w) :=
  step_lone_go (by simp [stepG, stepG.exec, Frame.atR])
/-- A scope through which the run goes without a jump. -/
theorem wpIn_scope_straight {c : Code} (h : c.wpIn F n P (Exit.noGoto Q) a w) : (Code.scope c).wpIn F n P Q a w := by
  intro b k cs hro hb hr
  have h0 : (lone (b.atR a (.code (.scope c) :: k)) cs w).fenced P F := fenced_calm hb hr rfl
  obtain ⟨e, a₁, w₁, hq, harr⟩ := h b (.inScope c :: k) cs hro hb hr
  cases e with
  | normal => exact ⟨.normal, a₁, w₁, hq, .head h0 stepR_scope (StepsIn.trans harr (.one (fenced_calm hb hr rfl) stepR_inScope))⟩
  | exit id =>
    have hx : exitTo id (.inScope c :: k) = exitTo id k := by simp [exitTo]
    exact ⟨.exit id, a₁, w₁, hq, fun k' hk => .head h0 stepR_scope (harr.1 k' (by rw [hx]; exact hk)), fun hr' hk => let ⟨k₁, h1, h2⟩ := harr.2 hr' (by rw [hx]; exact hk); ⟨k₁, h1, .head h0 stepR_scope h2⟩⟩
  | goto l => exact hq.elim
  | ret => exact ⟨_, a₁, w₁, hq, .of_steps (.one h0 stepR_scope) harr⟩
  | panic ch => exact ⟨_, a₁, w₁, hq, .of_steps (.one h0 stepR_scope) harr⟩
  | outgrown => exact ⟨_, a₁, w₁, hq, .of_steps (.one h0 stepR_scope) harr⟩
end
theorem wpIn_range_none {g : Operand} {ps : Array Tmp} {assign body : Code} {Q : Exit → Act → World → Prop} {a : Act} {w : World}
    (hro : F.round = none) (h1 : 1 ≤ n) {gf : Nat} {lb : Array Value} (hg : a.eval g = .func (.func gf) #[] lb) (hFg : F.fn gf) (eg : ∀ args w, (callFunc gf args).run P w = .ok (.enter gf args) w)
    (hcall : ∀ (l : Nat) (V : World), Below w.heap.size w V → CallsIn F (n - 1) P gf (#[.func (.yield l) #[] #[]] ++ lb) V fun e W' => (∃ v, e = .returned v) ∧ Below V.heap.size V W')
    (hdone : ∀ (D : Nat) (W : World), w.heap.size ≤ D → Below w.heap.size w W → W.heap[D]? = some (.deferred (some [])) → Q .normal { a with defers := { target := .collected D, args := #[] } :: a.defers } W) :
    (Code.rangeFunc g ps assign body).wpIn F n P Q a w := by
  refine wpIn_rangeFunc ?_
  intro fn hfn
  rw [hro]
  obtain ⟨lp, hlp⟩ : ∃ lp : LoopState → Option Code → Loop, lp = fun st pe => { state := st, pending := pe, fn, tmps := a.tmps, params := ps, assign, body, defers := w.heap.size } := ⟨_, rfl⟩
  obtain ⟨V, hV⟩ : ∃ V, (w.alloc (.deferred (some []))).alloc (.loop (lp .ready none)) = V := ⟨_, rfl⟩
  have hL : V.heap[w.heap.size + 1]? = some (.loop (lp .ready none)) := by
    have := World.alloc_heap_new (w.alloc (.deferred (some []))) (.loop (lp .ready none))
    rw [World.size_alloc, hV] at this; exact this
  have hD : V.heap[w.heap.size]? = some (.deferred (some [])) := by
    rw [← hV]; exact (Below.heap_alloc _ _ _ (by simp)).trans (World.alloc_heap_new w _)
  have hB : Below w.heap.size w V := by
    rw [← hV]; exact ((Below.refl _ w).alloc (Nat.le_refl _) _).alloc (by simp) _
  refine ⟨w.heap.size + 1, [{ target := .collected w.heap.size, args := #[] }], V, { target := .fn (.func gf) lb, args := #[.func (.yield (w.heap.size + 1)) #[] #[]] }, V, gf,
    #[.func (.yield (w.heap.size + 1)) #[] #[]] ++ lb, V, ?_, ?_, ?_, ?_, fun _ => h1, ?_⟩
  · rw [← hV, hlp]; exact run_enterLoop_outer _ _ _ _ _
  · simp only [resolve, hg]; simp [go_sem]
  · intro f' hf'; simp [Target.leads] at hf'; subst hf'; exact hFg
  · simp [invoke, go_sem, eg]
  · refine (hcall (w.heap.size + 1) V hB).mono ?_
    rintro e X ⟨⟨v, rfl⟩, hb⟩
    have hl := (hb.block (w.heap.size + 1) (Array.getElem?_eq_some_iff.1 hL).1).trans hL
    have hk := (hb.block w.heap.size (Array.getElem?_eq_some_iff.1 hD).1).trans hD
    have hBX := below_step hB hb
    exact ⟨none, _, by have := run_endLoop (P := P) hl (by rw [hlp]; simp); rw [hlp] at this; exact this, hdone _ _ (Nat.le_refl _) (hBX.trans (belowK_b (w := w) (Nat.le_refl _) _ _ _ _ (by omega) hl rfl rfl)) ((World.putObj_heap_other (by omega)).trans hk)⟩
end Go.WW
/- Regions in a round in which a load of one type acts. -/
namespace Go.WW.TI
open Go.RowKit
/-- As looksN, but a load of type T acts. -/
def looksT (T : TypeId) (o : Oper) : Bool := looksN o && (match o.op with | .load t _ => t != T | _ => true)
theorem looksT_N {T : TypeId} {o : Oper} (h : looksT T o = true) : looksN o = true := by
  unfold looksT at h
  simp only [Bool.and_eq_true] at h
  exact h.1
section
variable {F : Fence} {P : Program} {ops : Array Oper} {S : World → Prop} {T : TypeId} {Q : Act → World → Prop}
theorem textT_look {o : Oper} {rest : List Oper} {a : Act} {w : World} (hw : Region.wanted o (yielded ops a.tmps) = true) (hs : looksT T o = true)
    (h : ∀ K : Act → Prop, (∀ a', wpText F P ops (looksT T) S Q rest a' w → K a') → o.quiet P a S K) : wpText F P ops (looksT T) S Q (o :: rest) a w := by
  rw [text_cons, if_pos hw, if_pos hs]
  obtain ⟨v, hv, hh⟩ := h _ (fun _ x => x)
  refine ⟨v, fun w' hw' => ?_, hh⟩
  have := hv w' hw'
  unfold Oper.quietAt at this
  rcases looksN_value (P := P) (looksT_N hs) a.eval w' with ⟨u, w'', e⟩ | ⟨x, w'', e⟩
  · rw [e] at this ⊢
    obtain ⟨rfl, rfl⟩ := this
    rfl
  · rw [e] at this
    exact this.elim
theorem textT_act {l : Nat} {o : Oper} {rest : List Oper} {a : Act} {w : World} (hw : Region.wanted o (yielded ops a.tmps) = true) (hs : looksT T o = false) (hnd : isDefer o = false)
    (h : ∀ K : Act → World → Prop, (∀ a' w', S w' → wpText (Fence.wide.inRound l) P ops (looksT T) S Q rest a' w' → K a' w') → o.wp P a w K never) : wpText (Fence.wide.inRound l) P ops (looksT T) S Q (o :: rest) a w := by
  rw [text_cons, if_pos hw, if_neg (by simp [hs])]
  exact wpIn_of_wp (fun c hc => by simp [isDefer, hc] at hnd) (h _ (fun _ _ x y => ⟨x, y⟩))
/-- A call of yield. -/
theorem textT_yield {l : Nat} {o : Oper} {rest : List Oper} {a : Act} {w : World} (hw : Region.wanted o (yielded ops a.tmps) = true) (hs : looksT T o = false)
    (h : ∀ K : Act → World → Prop, (∀ a' w', S w' → wpText (Fence.wide.inRound l) P ops (looksT T) S Q rest a' w' → K a' w') → o.wpIn (Fence.wide.inRound l) 0 P a w K never) : wpText (Fence.wide.inRound l) P ops (looksT T) S Q (o :: rest) a w := by
  rw [text_cons, if_pos hw, if_neg (by simp [hs])]
  exact h _ (fun _ _ x y => ⟨x, y⟩)
end
theorem wpIn_region_sinceT {P : Program} {id l : Nat} {Q' : Exit → Act → World → Prop} {a : Act} {W w : World} {ops : List Oper} (T : TypeId) (S : Nat → Prop) (hW : But S W w) (hm : P.follows .mixedOrders = true) (hB : textB (looksT T) ops.toArray = true) (hnd : noDefer ops = true)
    (h : wpText (Fence.wide.inRound l) P ops.toArray (looksT T) (sinceB S W) (fun a' w' => Q' .normal a' w') ops a w.drew) : (Code.region id ops.toArray true).wpIn (Fence.wide.inRound l) 0 P Q' a w :=
  wpIn_region_text (fun _ => trivial) rfl (sinceB S W) (looksT T) hm hB hnd ⟨⟨w.drew, hW.drew⟩, rfl⟩ h
end Go.WW.TI
/- password.Purgeable$1: its items. -/
namespace Go.Proofs.YtpibcnchkndejaaGreatDoor
open Go.RowKit Go.WW
attribute [local go_sem] Oper.semAt_some
set_option maxRecDepth 100000 in
set_option maxHeartbeats 1000000 in
theorem purg1_seq (b cap : Nat) (a : Option Addr) (X : List Int) (S : Nat → Prop) (w : World) (hc : w.heap[b]? = some (.cells #[.slice a X.length cap] 40)) (hS : ∀ k, S k → k < w.heap.size) (hL : ∀ y, But (OffI S w) w y → IntsAt y a X) :
    SeqB Tryz.prog 28 #[.pointer (some ⟨b, 0, none⟩)] S X VI w := by
  intro l J Jx W hW hl1 hl2 h0 hJ hJx hY
  have hWc : W.cell? ⟨b, 0, none⟩ = some (.slice a X.length cap) := (box_facts (still_blk hW hc)).1 0
  have hbl : b < W.heap.size := World.block_lt_of_cell? W _ hWc
  have HJ := Lib.hid hJ
  have HJx := Lib.hid hJx
  have HY := Lib.hid hY
  have HL := Lib.hid hL
  have H0 := Lib.hid h0
  clear hJ hJx hY hL h0
  obtain ⟨W1, hW1⟩ : ∃ W1, W1 = W.alloc (.cells #[.func (.yield l) #[] #[]] 85) := ⟨_, rfl⟩
  obtain ⟨W2, hW2⟩ : ∃ W2, W2 = W1.alloc (.cells #[.slice a X.length cap] 40) := ⟨_, rfl⟩
  have hs1 : W1.heap.size = W.heap.size + 1 := by rw [hW1]; simp
  have hb1 : Below W.heap.size W W1 := by rw [hW1]; exact (Below.refl _ _).alloc (Nat.le_refl _) _
  have hb2 : Below W.heap.size W W2 := by rw [hW2]; exact hb1.alloc hb1.size _
  have hs2 : W2.heap.size = W.heap.size + 2 := by rw [hW2]; simp [hs1]
  have hy1 : W2.heap[W.heap.size]? = some (.cells #[.func (.yield l) #[] #[]] 85) := by
    rw [hW2, Below.heap_alloc _ _ _ (by omega), hW1]; exact World.alloc_heap_new _ _
  have hy2 : W2.cell? ⟨W.heap.size + 1, 0, none⟩ = some (.slice a X.length cap) := by
    have := World.alloc_heap_new W1 (.cells #[.slice a X.length cap] 40)
    rw [← hW2, hs1] at this
    exact (box_facts this).1 0
  refine (callsIn_wide (n := 0)).1 ?_
  refine callsIn_of_wp_marks Tryz.func28 rfl trivial ?_ rfl
  simp only [Tryz.ntmps28, List.size_toArray, List.length_cons, List.length_nil, Nat.reduceAdd, Nat.reduceSub, Array.replicate_succ, Array.replicate_zero, List.push_toArray, List.append_toArray, List.nil_append, List.cons_append]
  gi_wp2
  refine wpIn_scope_straight ?_
  gi_wp2
  refine wpIn_label ?_
  gi_wp2
  refine ⟨trivial, rfl, (callsIn_wide.2 (valuesI_c _ _ _ _)).mono ?_⟩
  rintro e w' ⟨rfl, rfl⟩
  rw [← hW1, hs1, ← hW2]
  clear hW1 hW2
  gi_wp2
  have hwW := hW.size
  refine (wpIn_wide (n := 0)).2 ?_
  refine wp_range_but (gf := 88) (lb := #[.pointer (some ⟨W.heap.size + 1, 0, none⟩)]) (by simp [go_sem]) (enters_of Tryz.func88 (by kernel_rfl) rfl) (S := fun k => S k ∨ k = l) ?_ (xs := X) (V := VI) ?_ (valuesI1_seq _ cap a X _ W2 hy2 ?_)
    (fun c1 k Wc => J c1 k Wc ∧ Wc.heap[W.heap.size]? = some (.cells #[.func (.yield l) #[] #[]] 85) ∧ But (OffI (fun k => S k ∨ k = l) W2) W2 Wc ∧ W2.heap.size < c1) (fun c c1 k Wc => c = .exit 0 ∧ Jx c1 k Wc ∧ W2.heap.size < c1) ?_ ?_ ?_ ?_ ?_ ?_
  · rintro k (hk | rfl)
    · have := hS k hk; omega
    · omega
  · rintro c1 x v W0 Wc rfl; rfl
  · intro y hy
    refine HL.out y ((But.of_below (below_step hW hb2)).trans (hy.mono fun k hk => ?_))
    rcases hk with (hk | rfl) | hk
    · exact .inl hk
    · exact .inr hl1
    · exact .inr (by omega)
  · intro c1 Wc h1 h2 hb
    exact ⟨H0.out c1 Wc (by omega) h2 (below_step hb2 hb), still_blk hb hy1, But.of_below hb, h1⟩
  · rintro c1 k Wc Wc' ⟨h1, h2, h3, h4⟩ hb
    exact ⟨HJ.out _ _ _ _ h1 (hb.mono fun k hk => ⟨by have := hk.1; omega, hk.2⟩), (hb.block _ (Array.getElem?_eq_some_iff.1 h2).1 (fun h => by have := h.1; omega)).trans h2, h3.trans (hb.mono fun k hk => .inr (by have := hk.1; omega)), h4⟩
  · rintro c c1 k Wc Wc' ⟨rfl, h1, h2⟩ hb
    exact ⟨rfl, HJx.out _ _ _ _ h1 (hb.mono fun k hk => ⟨by have := hk.1; omega, hk.2⟩), h2⟩
  · rintro c1 k x v W0 Wc hx rfl ⟨hj, hyc0, hbu0, hc0⟩ hbs hc1 hc20
    have hsW := hbs.size
    have hyc := (hbs.block _ (Array.getElem?_eq_some_iff.1 hyc0).1 (fun h => by have := h.1; omega)).trans hyc0
    have hbu := hbu0.trans (hbs.mono fun k hk => (.inr (by have := hk.1; omega) : OffI (fun k => S k ∨ k = l) W2 k))
    have hbsW : But (span W.heap.size c1) W0 Wc := hbs.mono fun k hk => ⟨by have := hk.1; omega, hk.2⟩
    have HJ0 := Lib.hid hj
    clear hj
    gi_wp2
    have hcl : W.heap.size < Wc.heap.size := (Array.getElem?_eq_some_iff.1 hyc).1
    refine ⟨Below.refl _ _, fun U hU => ?_⟩
    have hUy : U.heap[W.heap.size]? = some (.cells #[.func (.yield l) #[] #[]] 85) := (hU.block _ hcl (not_one (by omega))).trans hyc
    have hbuU : But (OffI (fun k => S k ∨ k = l) W2) W2 U := hbu.trans (hU.mono fun k hk => .inr (by have : k = _ := hk; omega))
    have hbsU : But (span W.heap.size c1) W0 U := hbsW.trans (hU.mono fun k hk => (⟨by have : k = _ := hk; omega, by have : k = _ := hk; omega⟩ : span W.heap.size c1 k))
    have hUs := hU.size
    have hnW : ¬ ((S W.heap.size ∨ W.heap.size = l) ∨ c1 ≤ W.heap.size) := by
      rintro ((h | h) | h)
      · have := hS _ h; omega
      · omega
      · omega
    have hcy : U.cell? ⟨W.heap.size, 0, none⟩ = some (.func (.yield l) #[] #[]) := (box_facts hUy).1 0
    have hWU : W.heap.size < U.heap.size := by omega
    obtain ⟨fn, tmps, assign, body, hy, hR⟩ := HY.out c1 k x #[.int .i64 x] W0 U hx HJ0.out hbsU rfl (by omega) hc20
    clear hU hbu hyc hyc0 hbu0 hbs
    gi_wp2
    refine ⟨rfl, RoundIn.mono (F := Fence.wide.inRound (W.heap.size + 2 + 1)) hR ?_⟩
    rintro e W3 ⟨hb3, h3⟩
    have hy3 : W3.heap[W.heap.size]? = some (.cells #[.func (.yield l) #[] #[]] 85) := (hb3.block _ hWU hnW).trans hUy
    have hbu3 : But (OffI (fun k => S k ∨ k = l) W2) W2 W3 := hbuU.trans (hb3.mono fun k hk => hk.imp id (fun h => by omega))
    clear hy hR hcy hUy hbuU
    rcases h3 with ⟨rfl, hj3⟩ | ⟨rfl, hx3⟩
    · gi_wp2
      exact ⟨hb3, hj3, hy3, hbu3, by omega⟩
    · gi_wp2
      exact ⟨hb3, rfl, hx3, by omega⟩
  · intro c1 Wc ⟨hj, _, _, hc0⟩ hD
    gi_wp2
    refine ⟨by simp, .inl ⟨_, _, rfl, run_takeDeferred hD, ?_⟩⟩
    refine ⟨.tuple #[], by simp [results, Tryz.f28, go_sem], ⟨_, rfl⟩, .inl ⟨c1, HJ.out _ _ _ _ hj ((But.putObj _).mono fun k hk => ?_)⟩⟩
    have : k = _ := hk
    exact ⟨by omega, by omega⟩
  · rintro c c1 k Wc ⟨rfl, hx, hc0⟩ hD
    refine (wpIn_wide (n := 0)).1 ?_
    gi_wp2
    refine ⟨by simp, .inl ⟨_, _, rfl, run_takeDeferred hD, ?_⟩⟩
    refine ⟨.tuple #[], by simp [results, Tryz.f28, go_sem], ⟨_, rfl⟩, .inr ⟨c1, k, HJx.out _ _ _ _ hx ((But.putObj _).mono fun k hk => ?_)⟩⟩
    have : k = _ := hk
    exact ⟨by omega, by omega⟩
end Go.Proofs.YtpibcnchkndejaaGreatDoor
