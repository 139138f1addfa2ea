/- Part V of the proof about watchword's lockout: texts H1 H2 H3. -/
import Derived.Test.YtknppbjbnpddaaaGreatDoorGS

namespace Go.WW
theorem entryOk_upd {d : Entry} (h : entryOk d = true) {f l s : Int} (hf : 0 ≤ f ∧ f ≤ 65535) (hl : 0 ≤ l ∧ l ≤ 1099511627776) (hs : 0 ≤ s ∧ s ≤ 1099511627776) : entryOk { d with fails := f, lastFail := l, lastSuccess := s } = true := by
  simp only [entryOk, Bool.and_eq_true] at h ⊢
  obtain ⟨h1, h2⟩ := h
  refine ⟨h1, ?_⟩
  simp only [entTimes, btw, Bool.and_eq_true, decide_eq_true_eq] at h2 ⊢
  exact ⟨⟨⟨⟨⟨⟨h2.1.1.1.1.1.1, h2.1.1.1.1.1.2⟩, h2.1.1.1.1.2⟩, h2.1.1.1.2⟩, hf⟩, hl⟩, hs⟩
/-- The entry after so many failed attempts at one time, once it was unlocked. -/
def failed (d : Entry) (k : Nat) (now : Int) : Entry := { d with fails := (k : Int), lastFail := if k = 0 then d.lastFail else now }
theorem failed_zero (d : Entry) (now : Int) : failed d 0 now = { d with fails := 0 } := rfl
theorem count_failed {d : Entry} {p : Policy} {k : Nat} {now : Int} (hw : 0 ≤ p.window) (hlt : (k : Int) < p.fails) : countOf (failed d k now) p now = k := by
  unfold countOf failed
  dsimp only
  rw [if_neg (by omega)]
  by_cases h0 : k = 0
  · subst h0; simp
  · rw [if_neg h0, if_neg (by have := hw; omega)]
theorem locked_failed {d : Entry} {p : Policy} {k : Nat} {now : Int} (hw : 0 ≤ p.window) (hlt : (k : Int) < p.fails) : lockedAt (failed d k now) p now = false := by
  rw [lockedAt, count_failed hw hlt, decide_eq_false (p := p.fails ≤ (k : Int)) (by omega)]; simp
theorem attempted_failed {d : Entry} {p : Policy} {k : Nat} {now : Int} (hw : 0 ≤ p.window) (hlt : (k : Int) < p.fails) (h40 : p.fails ≤ 1000) : attempted (failed d k now) p false now = failed d (k + 1) now := by
  unfold attempted failsOf lastFailOf lastOkOf
  rw [count_failed hw hlt]
  simp only [failed, Bool.false_eq_true, if_false]
  have e : min ((k : Int) + 1) 65535 = ((k + 1 : Nat) : Int) := by omega
  rw [e]
  simp
end Go.WW

namespace Go.WW
theorem okAll_parts {d : Entry} {p : Policy} {now : Int} (h : okAll d p now = true) : entryOk d = true ∧ polOk p = true ∧ isTime now = true := by
  simp only [okAll, Bool.and_eq_true] at h
  exact ⟨h.1.1, h.1.2, h.2⟩
theorem okAll_mk {d : Entry} {p : Policy} {now : Int} (h1 : entryOk d = true) (h2 : polOk p = true) (h3 : isTime now = true) : okAll d p now = true := by rw [okAll, h1, h2, h3]; rfl
theorem time_range {t : Int} (h : isTime t = true) : 0 ≤ t ∧ t ≤ 1099511627776 := by simpa [isTime, btw] using h
theorem pol_range {p : Policy} (h : polOk p = true) : (0 ≤ p.fails ∧ p.fails ≤ 1000) ∧ 0 ≤ p.window ∧ (0 ≤ p.lock ∧ p.lock ≤ 1099511627776) := by
  simp only [polOk, btw, Bool.and_eq_true, decide_eq_true_eq] at h
  exact ⟨h.1.1.2, h.1.2.1, h.2⟩
theorem ent_range {d : Entry} (h : entryOk d = true) : (0 ≤ d.fails ∧ d.fails ≤ 65535) ∧ (0 ≤ d.lastFail ∧ d.lastFail ≤ 1099511627776) ∧ (0 ≤ d.lastSuccess ∧ d.lastSuccess ≤ 1099511627776) := by
  simp only [entryOk, Bool.and_eq_true] at h
  have h2 := h.2
  simp only [entTimes, btw, Bool.and_eq_true, decide_eq_true_eq] at h2
  exact ⟨h2.1.1.2, h2.1.2, h2.2⟩
theorem ok_failed {d : Entry} {k : Nat} {now : Int} (h : entryOk d = true) (hn : isTime now = true) (hk : k ≤ 65535) : entryOk (failed d k now) = true := by
  obtain ⟨_, h2, h3⟩ := ent_range h
  have h4 := time_range hn
  exact entryOk_upd h (f := (k : Int)) (l := if k = 0 then d.lastFail else now) (s := d.lastSuccess) (by omega) (by split; exact h2; exact h4) h3
/-- As many failed attempts as the policy allows. -/
theorem locked_full {d : Entry} {p : Policy} {k : Nat} {now : Int} (hk : (k : Int) = p.fails) : lockedAt (failed d k now) p now = decide (0 < p.fails) := by
  unfold lockedAt
  by_cases h0 : 0 < p.fails
  · have hk0 : k ≠ 0 := by omega
    have : countOf (failed d k now) p now = p.fails := by
      unfold countOf failed
      dsimp only
      rw [if_pos ⟨h0, by omega⟩, if_neg hk0, if_neg (by omega)]
      exact hk
    rw [this]
    simp [h0]
  · simp [h0]
theorem locked_later {d : Entry} {p : Policy} {k : Nat} {now t : Int} (hk : (k : Int) = p.fails) (h0 : 0 < p.fails) (hl0 : 0 ≤ p.lock) (hu0 : 0 < untilOf (failed d k now) p) (hu1 : untilOf (failed d k now) p ≤ t) (hu2 : untilOf (failed d k now) p < 1099511627776) : lockedAt (failed d k now) p t = false := by
  have hk0 : k ≠ 0 := by omega
  have hlf : (failed d k now).lastFail = now := by unfold failed; dsimp only; rw [if_neg hk0]
  have hff : (failed d k now).fails = p.fails := hk
  unfold untilOf at hu0 hu1 hu2
  rw [hlf] at hu0 hu1 hu2
  have hl : p.lock ≠ 0 := by intro h; rw [if_pos h] at hu0; omega
  rw [if_neg hl] at hu0 hu1 hu2
  have h1 : now + p.lock ≤ t := by omega
  have : countOf (failed d k now) p t = if 0 < p.lock ∧ now + p.lock ≤ t then 0 else p.fails := by
    unfold countOf
    rw [hlf, hff, if_pos ⟨h0, by omega⟩]
  unfold lockedAt
  rw [this]
  have hp : 0 < p.lock := by omega
  rw [if_pos ⟨hp, h1⟩]
  rw [decide_eq_false (p := p.fails ≤ 0) (by omega)]; simp
theorem count_none {d : Entry} {p : Policy} {t : Int} (h : d.fails = 0) : countOf d p t = 0 := by
  unfold countOf
  rw [h]
  repeat' split
  all_goals rfl
theorem locked_none {d : Entry} {p : Policy} {t : Int} (h : d.fails = 0) : lockedAt d p t = false := by
  rw [lockedAt, count_none h]
  by_cases h0 : 0 < p.fails
  · rw [decide_eq_false (p := p.fails ≤ 0) (by omega)]; simp
  · simp [h0]
theorem ok_zero {d : Entry} (h : entryOk d = true) : entryOk { d with fails := 0 } = true := by
  obtain ⟨_, h2, h3⟩ := ent_range h
  exact entryOk_upd h (f := 0) (l := d.lastFail) (s := d.lastSuccess) (by omega) h2 h3
theorem ok_attempted {d : Entry} {p : Policy} {s : Bool} {now : Int} (h : okAll d p now = true) (hc : 0 ≤ countOf d p now) : entryOk (attempted d p s now) = true := by
  obtain ⟨h1, h2, h3⟩ := okAll_parts h
  obtain ⟨_, h4, h5⟩ := ent_range h1
  have h6 := time_range h3
  refine entryOk_upd h1 ?_ ?_ ?_
  · unfold failsOf; split <;> omega
  · unfold lastFailOf; split <;> assumption
  · unfold lastOkOf; split <;> assumption
theorem attempted_ok_fails {d : Entry} {p : Policy} {now : Int} : (attempted d p true now).fails = 0 := rfl
end Go.WW

namespace Go.Proofs.YtknppbjbnpddaaaGreatDoor
open Go.RowKit Go.WW
theorem moment_is (t : Int) (w : World) (b : Bool) (h : isTime t = b) : Calls Tryz.prog 21 #[.int .i64 t] w fun e w' => e = .returned (.bool b) ∧ w = w' := by
  have x := moment_c t w; rw [h] at x; exact x
theorem hUnlock (r : ERaw) (d : Entry) (now : Int) (w : World) (he : EntAt w r d) (h1 : entryOk d = true) : Calls Tryz.prog 16 #[.agg (entC r d)] w (EntOut w (failed d 0 now) 0) := by
  rw [failed_zero]; exact lUnlock_yes r d w he h1
theorem hLocked (r : ERaw) (d : Entry) (p : Policy) (t : Int) (b : Bool) (w : World) (he : EntAt w r d) (hs : p.name.size ≤ lim) (h1 : okAll d p t = true) (h2 : lockedAt d p t = b) : Calls Tryz.prog 22 #[.agg (entC r d), .agg (polC p), .int .i64 t, .bool b] w fun e w' => e = .returned (.bool true) ∧ Below w.heap.size w w' := by
  have x := llocked_c r d p t b w he hs h1
  rw [h2, beq_self_eq_true] at x
  exact x
theorem hAttempt (r : ERaw) (d : Entry) (p : Policy) (k : Nat) (now : Int) (w : World) (he : EntAt w r (failed d k now)) (hs : p.name.size ≤ lim) (h1 : okAll (failed d k now) p now = true) (hw : 0 ≤ p.window) (hlt : (k : Int) < p.fails) (h40 : p.fails ≤ 1000) : Calls Tryz.prog 19 #[.agg (entC r (failed d k now)), .agg (polC p), .bool false, .int .i64 now] w (EntOut w (failed d (k + 1) now) 0) := by
  have x := lAttempt_ok r (failed d k now) p false now w he hs h1 (locked_failed hw hlt)
  rw [attempted_failed hw hlt h40] at x
  exact x
theorem hCount (r : ERaw) (d : Entry) (p : Policy) (t : Int) (w : World) (he : EntAt w r d) (hs : p.name.size ≤ lim) (h1 : okAll d p t = true) (h2 : d.fails = 0) : Calls Tryz.prog 8 #[.agg (entC r d), .agg (polC p), .int .i64 t] w fun e w' => e = .returned (.tuple #[.int .i64 0, .int .i64 0]) ∧ Below w.heap.size w w' := by
  have x := cCount_ok r d p t w he hs h1
  rw [count_none h2] at x
  exact x
/-- The boxes of the policy and of the entry. -/
structure HS (V : World) (B X : Nat) (p : Policy) (r : ERaw) (d : Entry) : Prop where
  p : V.heap[B]? = some (.cells (polC p) 33)
  x : V.heap[X]? = some (.cells (entC r d) 31)
  d : Dep V (fun k => k ≠ X ∧ k < V.heap.size) (fun y => EntAt y r d)
  ne : B ≠ X
theorem HS.later {V V' : World} {B X : Nat} {p : Policy} {r : ERaw} {d : Entry} (h : HS V B X p r d) (hb : Below V.heap.size V V') : HS V' B X p r d :=
  ⟨still_blk hb h.p, still_blk hb h.x, h.d.to (fun k hk => hb.block k hk.2) (fun _ hk => ⟨hk.1, Nat.lt_of_lt_of_le hk.2 hb.size⟩), h.ne⟩
theorem HS.put {V V' : World} {B X : Nat} {p : Policy} {r r' : ERaw} {d d' : Entry} {o : Obj} (h : HS V B X p r d) (hb : Below V.heap.size V V') (hd : Dep V' (fresh V.heap.size V') (fun x => EntAt x r' d')) : HS (putRow (V'.alloc o) X 0 (entC r' d')) B X p r' d' := by
  have hX : X < V.heap.size := (Array.getElem?_eq_some_iff.1 h.x).1
  have hP : B < V.heap.size := (Array.getElem?_eq_some_iff.1 h.p).1
  have hs := hb.size
  have e1 : (V'.alloc o).heap[X]? = some (.cells (entC r d) 31) := by rw [Below.heap_alloc _ _ _ (by omega)]; exact still_blk hb h.x
  refine ⟨?_, ?_, ?_, h.ne⟩
  · rw [putRow_other h.ne, Below.heap_alloc _ _ _ (by omega)]; exact still_blk hb h.p
  · rw [putRow_blk e1 (by simp [go_sem]), splice_whole (by simp [go_sem])]
  · refine hd.to (fun k hk => ?_) (fun k hk => ⟨by have := hk.1; omega, by rw [putRow_size]; have := hk.2; simp; omega⟩)
    have h1 := hk.1
    have h2 := hk.2
    rw [putRow_other (by omega), Below.heap_alloc _ _ _ h2]
theorem HS.ent {V : World} {B X : Nat} {p : Policy} {r : ERaw} {d : Entry} (h : HS V B X p r d) : EntAt V r d := h.d.out
theorem HS.new {V V' : World} {B : Nat} {p : Policy} {r : ERaw} {d : Entry} {T : TypeId} (hT : T = 31) (hp : V.heap[B]? = some (.cells (polC p) 33)) (hb : Below V.heap.size V V') (hd : Dep V' (fresh V.heap.size V') (fun x => EntAt x r d)) : HS (V'.alloc (.cells (entC r d) T)) B V'.heap.size p r d := by
  subst hT
  have hP : B < V.heap.size := (Array.getElem?_eq_some_iff.1 hp).1
  have hs := hb.size
  refine ⟨?_, World.alloc_heap_new _ _, ?_, by omega⟩
  · rw [Below.heap_alloc _ _ _ (by omega)]; exact still_blk hb hp
  · refine hd.to (fun k hk => Below.heap_alloc _ _ _ hk.2) (fun k hk => ⟨by have := hk.2; omega, by have := hk.2; simp; omega⟩)
set_option maxRecDepth 100000 in
set_option maxHeartbeats 16000000 in
theorem holds_A (r : ERaw) (d : Entry) (p : Policy) (now later : Int) (w : World) (he : EntAt w r d) (hA : 40 < p.fails) : Calls Tryz.prog 5 #[.agg (entC r d), .agg (polC p), .int .i64 now, .int .i64 later] w fun e w' => e = .returned (.bool true) ∧ Below w.heap.size w w' := by
  have hB : Below w.heap.size w ((w.alloc (.cells (entC r d) 31)).alloc (.cells (polC p) 33)) := ((Below.refl _ _).alloc (Nat.le_refl _) _).alloc (by simp) _
  have hb0 : Below ((w.alloc (.cells (entC r d) 31)).alloc (.cells (polC p) 33)).heap.size ((w.alloc (.cells (entC r d) 31)).alloc (.cells (polC p) 33)) ((w.alloc (.cells (entC r d) 31)).alloc (.cells (polC p) 33)) := Below.refl _ _
  go_enter Tryz.func5, Tryz.ntmps5
  go_wp2_with fail
  refine (large_c _ _ _ (he.later hB)).mono ?_
  rintro e v1 ⟨b, rfl, hy⟩
  have hb1 := below_step hb0 hy
  obtain ⟨hc, hf, hr⟩ := bcell hb1
  have hsz : w.heap.size + 1 < v1.heap.size := by have := hb1.size; simp at this; omega
  cases b
  case true =>
    dsimp only
    go_wp2_with fail
    refine (known_c _).mono ?_
    rintro e v9 ⟨rfl, hy9⟩
    dsimp only
    go_wp2_with fail
    go_ret
    exact ⟨rfl, below_step (below_step hB hb1) hy9⟩
  dsimp only
  go_wp2_with fail
  refine (known_c _).mono ?_
  rintro e v9 ⟨rfl, hy9⟩
  dsimp only
  go_wp2_with fail
  go_ret
  exact ⟨rfl, below_step (below_step hB hb1) hy9⟩
set_option maxRecDepth 100000 in
set_option maxHeartbeats 16000000 in
theorem holds_B (r : ERaw) (d : Entry) (p : Policy) (now later : Int) (w : World) (he : EntAt w r d) (hA : p.fails ≤ 40) (hl : later < 0) : Calls Tryz.prog 5 #[.agg (entC r d), .agg (polC p), .int .i64 now, .int .i64 later] w fun e w' => e = .returned (.bool true) ∧ Below w.heap.size w w' := by
  have hB : Below w.heap.size w ((w.alloc (.cells (entC r d) 31)).alloc (.cells (polC p) 33)) := ((Below.refl _ _).alloc (Nat.le_refl _) _).alloc (by simp) _
  have hb0 : Below ((w.alloc (.cells (entC r d) 31)).alloc (.cells (polC p) 33)).heap.size ((w.alloc (.cells (entC r d) 31)).alloc (.cells (polC p) 33)) ((w.alloc (.cells (entC r d) 31)).alloc (.cells (polC p) 33)) := Below.refl _ _
  go_enter Tryz.func5, Tryz.ntmps5
  go_wp2_with fail
  refine (large_c _ _ _ (he.later hB)).mono ?_
  rintro e v1 ⟨b, rfl, hy⟩
  have hb1 := below_step hb0 hy
  obtain ⟨hc, hf, hr⟩ := bcell hb1
  have hsz : w.heap.size + 1 < v1.heap.size := by have := hb1.size; simp at this; omega
  cases b
  case true =>
    dsimp only
    go_wp2_with fail
    refine (known_c _).mono ?_
    rintro e v9 ⟨rfl, hy9⟩
    dsimp only
    go_wp2_with fail
    go_ret
    exact ⟨rfl, below_step (below_step hB hb1) hy9⟩
  dsimp only
  go_wp2_with fail
  refine (known_c _).mono ?_
  rintro e v9 ⟨rfl, hy9⟩
  dsimp only
  go_wp2_with fail
  go_ret
  exact ⟨rfl, below_step (below_step hB hb1) hy9⟩
set_option maxRecDepth 100000 in
set_option maxHeartbeats 16000000 in
theorem holds_C (r : ERaw) (d : Entry) (p : Policy) (now later : Int) (w : World) (he : EntAt w r d) (hA : p.fails ≤ 40) (hl : 0 ≤ later) (hl1 : 1099511627776 < later) : Calls Tryz.prog 5 #[.agg (entC r d), .agg (polC p), .int .i64 now, .int .i64 later] w fun e w' => e = .returned (.bool true) ∧ Below w.heap.size w w' := by
  have hB : Below w.heap.size w ((w.alloc (.cells (entC r d) 31)).alloc (.cells (polC p) 33)) := ((Below.refl _ _).alloc (Nat.le_refl _) _).alloc (by simp) _
  have hb0 : Below ((w.alloc (.cells (entC r d) 31)).alloc (.cells (polC p) 33)).heap.size ((w.alloc (.cells (entC r d) 31)).alloc (.cells (polC p) 33)) ((w.alloc (.cells (entC r d) 31)).alloc (.cells (polC p) 33)) := Below.refl _ _
  go_enter Tryz.func5, Tryz.ntmps5
  go_wp2_with fail
  refine (large_c _ _ _ (he.later hB)).mono ?_
  rintro e v1 ⟨b, rfl, hy⟩
  have hb1 := below_step hb0 hy
  obtain ⟨hc, hf, hr⟩ := bcell hb1
  have hsz : w.heap.size + 1 < v1.heap.size := by have := hb1.size; simp at this; omega
  cases b
  case true =>
    dsimp only
    go_wp2_with fail
    refine (known_c _).mono ?_
    rintro e v9 ⟨rfl, hy9⟩
    dsimp only
    go_wp2_with fail
    go_ret
    exact ⟨rfl, below_step (below_step hB hb1) hy9⟩
  dsimp only
  go_wp2_with fail
  refine (known_c _).mono ?_
  rintro e v9 ⟨rfl, hy9⟩
  dsimp only
  go_wp2_with fail
  go_ret
  exact ⟨rfl, below_step (below_step hB hb1) hy9⟩
set_option maxRecDepth 100000 in
set_option maxHeartbeats 16000000 in
theorem holds_D (r : ERaw) (d : Entry) (p : Policy) (now later : Int) (w : World) (he : EntAt w r d) (hs : p.name.size ≤ lim) (hA : p.fails ≤ 40) (hl : 0 ≤ later) (hl1 : later ≤ 1099511627776) (hok : okAll d p now = false) : Calls Tryz.prog 5 #[.agg (entC r d), .agg (polC p), .int .i64 now, .int .i64 later] w fun e w' => e = .returned (.bool true) ∧ Below w.heap.size w w' := by
  have hB : Below w.heap.size w ((w.alloc (.cells (entC r d) 31)).alloc (.cells (polC p) 33)) := ((Below.refl _ _).alloc (Nat.le_refl _) _).alloc (by simp) _
  have hb0 : Below ((w.alloc (.cells (entC r d) 31)).alloc (.cells (polC p) 33)).heap.size ((w.alloc (.cells (entC r d) 31)).alloc (.cells (polC p) 33)) ((w.alloc (.cells (entC r d) 31)).alloc (.cells (polC p) 33)) := Below.refl _ _
  go_enter Tryz.func5, Tryz.ntmps5
  go_wp2_with fail
  refine (large_c _ _ _ (he.later hB)).mono ?_
  rintro e v1 ⟨b, rfl, hy⟩
  have hb1 := below_step hb0 hy
  obtain ⟨hc, hf, hr⟩ := bcell hb1
  have hsz : w.heap.size + 1 < v1.heap.size := by have := hb1.size; simp at this; omega
  cases b
  case true =>
    dsimp only
    go_wp2_with fail
    refine (known_c _).mono ?_
    rintro e v9 ⟨rfl, hy9⟩
    dsimp only
    go_wp2_with fail
    go_ret
    exact ⟨rfl, below_step (below_step hB hb1) hy9⟩
  dsimp only
  go_wp2_with fail
  refine (cValid _ _ _ _ _ (he.later (below_step hB hb1)) hs false hok).mono ?_
  rintro e v2 ⟨rfl, hy⟩
  have hb2 := below_step hb1 hy
  clear hc hf hr hsz
  obtain ⟨hc, hf, hr⟩ := bcell hb2
  have hsz : w.heap.size + 1 < v2.heap.size := by have := hb2.size; simp at this; omega
  dsimp only
  go_wp2_with fail
  refine (known_c _).mono ?_
  rintro e v9 ⟨rfl, hy9⟩
  dsimp only
  go_wp2_with fail
  go_ret
  exact ⟨rfl, below_step (below_step hB hb2) hy9⟩
set_option maxRecDepth 100000 in
set_option maxHeartbeats 16000000 in
theorem holds_E (r : ERaw) (d : Entry) (p : Policy) (now later : Int) (w : World) (he : EntAt w r d) (hs : p.name.size ≤ lim) (hA : p.fails ≤ 40) (hl : 0 ≤ later) (hl1 : later ≤ 1099511627776) (hok : okAll d p now = true) (HT : isTime (now + later) = false) : Calls Tryz.prog 5 #[.agg (entC r d), .agg (polC p), .int .i64 now, .int .i64 later] w fun e w' => e = .returned (.bool true) ∧ Below w.heap.size w w' := by
  have hB : Below w.heap.size w ((w.alloc (.cells (entC r d) 31)).alloc (.cells (polC p) 33)) := ((Below.refl _ _).alloc (Nat.le_refl _) _).alloc (by simp) _
  have hb0 : Below ((w.alloc (.cells (entC r d) 31)).alloc (.cells (polC p) 33)).heap.size ((w.alloc (.cells (entC r d) 31)).alloc (.cells (polC p) 33)) ((w.alloc (.cells (entC r d) 31)).alloc (.cells (polC p) 33)) := Below.refl _ _
  obtain ⟨hoe, hop, hon⟩ := okAll_parts hok
  obtain ⟨hn0, hn1⟩ := time_range hon
  obtain ⟨⟨hf0, hf1⟩, hw0, hk0, hk1⟩ := pol_range hop
  go_enter Tryz.func5, Tryz.ntmps5
  go_wp2_with fail
  refine (large_c _ _ _ (he.later hB)).mono ?_
  rintro e v1 ⟨b, rfl, hy⟩
  have hb1 := below_step hb0 hy
  obtain ⟨hc, hf, hr⟩ := bcell hb1
  have hsz : w.heap.size + 1 < v1.heap.size := by have := hb1.size; simp at this; omega
  cases b
  case true =>
    dsimp only
    go_wp2_with fail
    refine (known_c _).mono ?_
    rintro e v9 ⟨rfl, hy9⟩
    dsimp only
    go_wp2_with fail
    go_ret
    exact ⟨rfl, below_step (below_step hB hb1) hy9⟩
  dsimp only
  go_wp2_with fail
  refine (cValid _ _ _ _ _ (he.later (below_step hB hb1)) hs true hok).mono ?_
  rintro e v2 ⟨rfl, hy⟩
  have hb2 := below_step hb1 hy
  clear hc hf hr hsz
  obtain ⟨hc, hf, hr⟩ := bcell hb2
  have hsz : w.heap.size + 1 < v2.heap.size := by have := hb2.size; simp at this; omega
  dsimp only
  go_wp2_with (go_at_call 21; refine (moment_is _ _ _ HT).mono ?_; rintro e w' ⟨rfl, rfl⟩)
  refine (known_c _).mono ?_
  rintro e v9 ⟨rfl, hy9⟩
  dsimp only
  go_wp2_with fail
  go_ret
  exact ⟨rfl, below_step (below_step hB hb2) hy9⟩
set_option maxRecDepth 100000 in
set_option maxHeartbeats 16000000 in
theorem holds_F (r : ERaw) (d : Entry) (p : Policy) (now later : Int) (w : World) (he : EntAt w r d) (hs : p.name.size ≤ lim) (hA : p.fails ≤ 40) (hl : 0 ≤ later) (hl1 : later ≤ 1099511627776) (hok : okAll d p now = true) (HT : isTime (now + later) = true) : Calls Tryz.prog 5 #[.agg (entC r d), .agg (polC p), .int .i64 now, .int .i64 later] w fun e w' => e = .returned (.bool true) ∧ Below w.heap.size w w' := by
  have hB : Below w.heap.size w ((w.alloc (.cells (entC r d) 31)).alloc (.cells (polC p) 33)) := ((Below.refl _ _).alloc (Nat.le_refl _) _).alloc (by simp) _
  have hb0 : Below ((w.alloc (.cells (entC r d) 31)).alloc (.cells (polC p) 33)).heap.size ((w.alloc (.cells (entC r d) 31)).alloc (.cells (polC p) 33)) ((w.alloc (.cells (entC r d) 31)).alloc (.cells (polC p) 33)) := Below.refl _ _
  obtain ⟨hoe, hop, hon⟩ := okAll_parts hok
  obtain ⟨hn0, hn1⟩ := time_range hon
  obtain ⟨⟨hf0, hf1⟩, hw0, hk0, hk1⟩ := pol_range hop
  obtain ⟨hs0, hs1⟩ := time_range HT
  go_enter Tryz.func5, Tryz.ntmps5
  go_wp2_with fail
  refine (large_c _ _ _ (he.later hB)).mono ?_
  rintro e v1 ⟨b, rfl, hy⟩
  have hb1 := below_step hb0 hy
  obtain ⟨hc, hf, hr⟩ := bcell hb1
  have hsz : w.heap.size + 1 < v1.heap.size := by have := hb1.size; simp at this; omega
  cases b
  case true =>
    dsimp only
    go_wp2_with fail
    refine (known_c _).mono ?_
    rintro e v9 ⟨rfl, hy9⟩
    dsimp only
    go_wp2_with fail
    go_ret
    exact ⟨rfl, below_step (below_step hB hb1) hy9⟩
  dsimp only
  go_wp2_with fail
  refine (cValid _ _ _ _ _ (he.later (below_step hB hb1)) hs true hok).mono ?_
  rintro e v2 ⟨rfl, hy⟩
  have hb2 := below_step hb1 hy
  clear hc hf hr hsz
  obtain ⟨hc, hf, hr⟩ := bcell hb2
  have hsz : w.heap.size + 1 < v2.heap.size := by have := hb2.size; simp at this; omega
  dsimp only
  go_wp2_with (go_at_call 21; refine (moment_is _ _ _ HT).mono ?_; rintro e w' ⟨rfl, rfl⟩)
  have hbp : v2.heap[w.heap.size + 1]? = some (.cells (polC p) 33) := still_blk hb2 (by have := World.alloc_heap_new (w.alloc (.cells (entC r d) 31)) (.cells (polC p) 33); simpa using this)
  have hB2 := below_step hB hb2
  refine (hUnlock _ _ now _ (he.later hB2) hoe).mono ?_
  rintro e v3 ⟨r1, rfl, hb3, hd3⟩
  clear hc hf hr hsz
  have hsn := HS.new (T := 31) rfl hbp hb3 hd3
  have hBn : Below w.heap.size w (v3.alloc (.cells (entC r1 (failed d 0 now)) 31)) := (below_step hB2 hb3).alloc (below_step hB2 hb3).size _
  have hX : w.heap.size ≤ v3.heap.size := (below_step hB2 hb3).size
  have hBX : w.heap.size + 1 ≠ v3.heap.size := hsn.ne
  dsimp only
  go_wp2_with (go_at_call 12; refine (num_c _ _).mono ?_; rintro e w' ⟨rfl, rfl⟩)
  generalize (v3.alloc (.cells (entC r1 (failed d 0 now)) 31)) = V0 at *
  generalize v3.heap.size = X at *
  clear hb3 hd3 hbp hb2 hb1 hb0 hy hB2 hB
  generalize w.heap.size + 1 = B at *
  go_loopw [11] (fun i wr => Below w.heap.size w wr ∧ ∃ k : Nat, (k : Int) ≤ p.fails ∧ i = .int .i64 k ∧ ∃ r', HS wr B X p r' (failed d k now)) (fun i _ => p.fails.toNat - (intOf i).toNat)
  case atStart => exact ⟨hBn, 0, by omega, rfl, r1, hsn⟩
  case round =>
    obtain ⟨hBr, k, hk, rfl, r2, hsr⟩ := hrel
    have hok1 : okAll (failed d k now) p now = true := okAll_mk (ok_failed hoe hon (by omega)) hop hon
    obtain ⟨hc, hf, hr, hlt1⟩ := box_facts hsr.x
    obtain ⟨hc2, hf2, hr2, hlt2⟩ := box_facts hsr.p
    by_cases hlt : (k : Int) < p.fails
    · go_wp2_with fail
      refine (hLocked _ _ _ _ false _ hsr.ent hs hok1 (locked_failed hw0 hlt)).mono ?_
      rintro e v4 ⟨rfl, hb4⟩
      have hs4 := hsr.later hb4
      clear hc hf hr hlt1 hc2 hf2 hr2 hlt2
      obtain ⟨hc, hf, hr, hlt1⟩ := box_facts hs4.x
      obtain ⟨hc2, hf2, hr2, hlt2⟩ := box_facts hs4.p
      dsimp only
      go_wp2_with fail
      refine (hAttempt _ _ _ _ _ _ hs4.ent hs hok1 hw0 hlt (by omega)).mono ?_
      rintro e v5 ⟨r5, rfl, hb5, hd5⟩
      have hs5 := hs4.put (o := .cells (entC r5 (failed d (k + 1) now)) 31) hb5 hd5
      have hcp : canPut v5 X 0 17 = true := canPut_of_cells (still_blk hb5 hs4.x) (by simp [go_sem])
      have hX5 : X < v5.heap.size := by have := hb5.size; omega
      have hne : v5.heap.size ≠ X := by omega
      have hB5 : Below w.heap.size w (putRow (v5.alloc (.cells (entC r5 (failed d (k + 1) now)) 31)) X 0 (entC r5 (failed d (k + 1) now))) := Go.WW.Below.putRow ((below_step (below_step hBr hb4) hb5).alloc (below_step (below_step hBr hb4) hb5).size _) hX
      clear hc hf hr hlt1 hc2 hf2 hr2 hlt2
      dsimp only
      go_wp2_with (go_at_call 12; refine (num_c _ _).mono ?_; rintro e w' ⟨rfl, rfl⟩)
      go_roundw
      case rel => exact ⟨hB5, k + 1, by omega, by go_num, r5, hs5⟩
      case measure => simp [intOf]; omega
    · have hkf : (k : Int) = p.fails := by omega
      have hok2 : okAll (failed d k now) p (now + later) = true := okAll_mk (ok_failed hoe hon (by omega)) hop HT
      have hLF := locked_full (d := d) (now := now) hkf
      have hLH := Lib.hid (fun h => locked_later (d := d) (now := now) (t := now + later) hkf h hk0)
      have hoz : entryOk { failed d k now with fails := 0 } = true := ok_zero (ok_failed hoe hon (by omega))
      have hox : entryOk (failed d k now) = true := ok_failed hoe hon (by omega)
      generalize failed d k now = x at *
      have hku0 : okAll { x with fails := 0 } p now = true := okAll_mk hoz hop hon
      have hoa : entryOk (attempted { x with fails := 0 } p true now) = true := ok_attempted hku0 (by rw [count_none rfl]; omega)
      have hka : okAll (attempted { x with fails := 0 } p true now) p (now + later) = true := okAll_mk hoa hop HT
      by_cases h0 : 0 < p.fails
      · have h0' : decide (0 < p.fails) = true := by simp [h0]
        rw [h0'] at hLF
        go_wp2_with fail
        refine (hLocked _ _ _ _ true _ hsr.ent hs hok1 hLF).mono ?_
        rintro e v11 ⟨rfl, hb11⟩
        clear hc hf hr hlt1 hc2 hf2 hr2 hlt2
        have hg11 := hb11
        have hs11 := hsr.later hg11
        have hB11 := below_step hBr hg11
        obtain ⟨hc, hf, hr, hlt1⟩ := box_facts hs11.x
        obtain ⟨hc2, hf2, hr2, hlt2⟩ := box_facts hs11.p
        dsimp only
        go_wp2_with fail
        refine (cUntil_yes _ _ _ _ _ hs11.ent hs hok1 hLF).mono ?_
        rintro e v12 ⟨rfl, hb12⟩
        clear hc hf hr hlt1 hc2 hf2 hr2 hlt2
        have hs12 := hs11.later hb12
        have hB12 := below_step hB11 hb12
        obtain ⟨hc, hf, hr, hlt1⟩ := box_facts hs12.x
        obtain ⟨hc2, hf2, hr2, hlt2⟩ := box_facts hs12.p
        dsimp only
        have hLU := Lib.hid (hLH.out h0)
        clear hLH
        generalize untilOf x p = u at *
        by_cases hu0 : 0 < u
        · by_cases hu1 : u ≤ now + later
          · by_cases hu2 : u < 1099511627776
            · have hLN := hLU.out hu0 hu1 hu2
              clear hLU
              go_wp2_with (go_at_call 12; refine (num_c _ _).mono ?_; rintro e w' ⟨rfl, rfl⟩)
              refine (hLocked _ _ _ _ false _ hs12.ent hs hok2 hLN).mono ?_
              rintro e v13 ⟨rfl, hb13⟩
              clear hc hf hr hlt1 hc2 hf2 hr2 hlt2
              have hg13 := hb13
              have hs13 := hs12.later hg13
              have hB13 := below_step hB12 hg13
              obtain ⟨hc, hf, hr, hlt1⟩ := box_facts hs13.x
              obtain ⟨hc2, hf2, hr2, hlt2⟩ := box_facts hs13.p
              dsimp only
              go_wp2_with fail
              refine (lUnlock_yes _ _ _ hs13.ent hox).mono ?_
              rintro e v14 ⟨r14, rfl, hb14, hd14⟩
              clear hc hf hr hlt1 hc2 hf2 hr2 hlt2
              have hg14 := hb14.alloc hb14.size (.cells (entC r14 { x with fails := 0 }) 31)
              have hs14 := hs13.later hg14
              have hB14 := below_step hB13 hg14
              have hx_Y : (v14.alloc (.cells (entC r14 { x with fails := 0 }) 31)).heap[v14.heap.size]? = some (.cells (entC r14 { x with fails := 0 }) 31) := World.alloc_heap_new _ _
              have he_Y : EntAt (v14.alloc (.cells (entC r14 { x with fails := 0 }) 31)) r14 { x with fails := 0 } := hd14.out.later ((Below.refl _ v14).alloc (Nat.le_refl _) _)
              obtain ⟨hc, hf, hr, hlt1⟩ := box_facts hs14.x
              obtain ⟨hc2, hf2, hr2, hlt2⟩ := box_facts hs14.p
              obtain ⟨hc_Y, hf_Y, hr_Y, hlt_Y⟩ := box_facts hx_Y
              dsimp only
              go_wp2_with fail
              generalize (v14.alloc (.cells (entC r14 { x with fails := 0 }) 31)) = u14 at *
              generalize v14.heap.size = B_Y at *
              refine (lAttempt_ok _ _ _ _ _ _ he_Y hs hku0 (locked_none rfl)).mono ?_
              rintro e v15 ⟨r15, rfl, hb15, hd15⟩
              clear hc hf hr hlt1 hc2 hf2 hr2 hlt2 hc_Y hf_Y hr_Y hlt_Y
              have hg15 := hb15.alloc hb15.size (.cells (entC r15 (attempted { x with fails := 0 } p true now)) 31)
              have hs15 := hs14.later hg15
              have hB15 := below_step hB14 hg15
              have hx_Y := still_blk hg15 hx_Y
              have he_Y := he_Y.later hg15
              have hx_Z : (v15.alloc (.cells (entC r15 (attempted { x with fails := 0 } p true now)) 31)).heap[v15.heap.size]? = some (.cells (entC r15 (attempted { x with fails := 0 } p true now)) 31) := World.alloc_heap_new _ _
              have he_Z : EntAt (v15.alloc (.cells (entC r15 (attempted { x with fails := 0 } p true now)) 31)) r15 (attempted { x with fails := 0 } p true now) := hd15.out.later ((Below.refl _ v15).alloc (Nat.le_refl _) _)
              obtain ⟨hc, hf, hr, hlt1⟩ := box_facts hs15.x
              obtain ⟨hc2, hf2, hr2, hlt2⟩ := box_facts hs15.p
              obtain ⟨hc_Y, hf_Y, hr_Y, hlt_Y⟩ := box_facts hx_Y
              obtain ⟨hc_Z, hf_Z, hr_Z, hlt_Z⟩ := box_facts hx_Z
              dsimp only
              go_wp2_with fail
              generalize (v15.alloc (.cells (entC r15 (attempted { x with fails := 0 } p true now)) 31)) = u15 at *
              generalize v15.heap.size = B_Z at *
              refine (hCount _ _ _ _ _ he_Z hs hka rfl).mono ?_
              rintro e v16 ⟨rfl, hb16⟩
              clear hc hf hr hlt1 hc2 hf2 hr2 hlt2 hc_Y hf_Y hr_Y hlt_Y hc_Z hf_Z hr_Z hlt_Z
              have hg16 := hb16
              have hs16 := hs15.later hg16
              have hB16 := below_step hB15 hg16
              have hx_Y := still_blk hg16 hx_Y
              have he_Y := he_Y.later hg16
              have hx_Z := still_blk hg16 hx_Z
              have he_Z := he_Z.later hg16
              obtain ⟨hc, hf, hr, hlt1⟩ := box_facts hs16.x
              obtain ⟨hc2, hf2, hr2, hlt2⟩ := box_facts hs16.p
              obtain ⟨hc_Y, hf_Y, hr_Y, hlt_Y⟩ := box_facts hx_Y
              obtain ⟨hc_Z, hf_Z, hr_Z, hlt_Z⟩ := box_facts hx_Z
              dsimp only
              go_wp2_with (go_at_call 12; refine (num_c _ _).mono ?_; rintro e w' ⟨rfl, rfl⟩)
              refine (known_c _).mono ?_
              rintro e v17 ⟨rfl, hb17⟩
              clear hc hf hr hlt1 hc2 hf2 hr2 hlt2 hc_Y hf_Y hr_Y hlt_Y hc_Z hf_Z hr_Z hlt_Z
              have hg17 := hb17
              have hs17 := hs16.later hg17
              have hB17 := below_step hB16 hg17
              have hx_Y := still_blk hg17 hx_Y
              have he_Y := he_Y.later hg17
              have hx_Z := still_blk hg17 hx_Z
              have he_Z := he_Z.later hg17
              obtain ⟨hc, hf, hr, hlt1⟩ := box_facts hs17.x
              obtain ⟨hc2, hf2, hr2, hlt2⟩ := box_facts hs17.p
              obtain ⟨hc_Y, hf_Y, hr_Y, hlt_Y⟩ := box_facts hx_Y
              obtain ⟨hc_Z, hf_Z, hr_Z, hlt_Z⟩ := box_facts hx_Z
              dsimp only
              go_wp2_with fail
              go_ret
              exact ⟨rfl, hB17⟩
            · clear hLU
              go_wp2_with (go_at_call 12; refine (num_c _ _).mono ?_; rintro e w' ⟨rfl, rfl⟩)
              refine (lUnlock_yes _ _ _ hs12.ent hox).mono ?_
              rintro e v18 ⟨r18, rfl, hb18, hd18⟩
              clear hc hf hr hlt1 hc2 hf2 hr2 hlt2
              have hg18 := hb18.alloc hb18.size (.cells (entC r18 { x with fails := 0 }) 31)
              have hs18 := hs12.later hg18
              have hB18 := below_step hB12 hg18
              have hx_Y : (v18.alloc (.cells (entC r18 { x with fails := 0 }) 31)).heap[v18.heap.size]? = some (.cells (entC r18 { x with fails := 0 }) 31) := World.alloc_heap_new _ _
              have he_Y : EntAt (v18.alloc (.cells (entC r18 { x with fails := 0 }) 31)) r18 { x with fails := 0 } := hd18.out.later ((Below.refl _ v18).alloc (Nat.le_refl _) _)
              obtain ⟨hc, hf, hr, hlt1⟩ := box_facts hs18.x
              obtain ⟨hc2, hf2, hr2, hlt2⟩ := box_facts hs18.p
              obtain ⟨hc_Y, hf_Y, hr_Y, hlt_Y⟩ := box_facts hx_Y
              dsimp only
              go_wp2_with fail
              generalize (v18.alloc (.cells (entC r18 { x with fails := 0 }) 31)) = u18 at *
              generalize v18.heap.size = B_Y at *
              refine (lAttempt_ok _ _ _ _ _ _ he_Y hs hku0 (locked_none rfl)).mono ?_
              rintro e v19 ⟨r19, rfl, hb19, hd19⟩
              clear hc hf hr hlt1 hc2 hf2 hr2 hlt2 hc_Y hf_Y hr_Y hlt_Y
              have hg19 := hb19.alloc hb19.size (.cells (entC r19 (attempted { x with fails := 0 } p true now)) 31)
              have hs19 := hs18.later hg19
              have hB19 := below_step hB18 hg19
              have hx_Y := still_blk hg19 hx_Y
              have he_Y := he_Y.later hg19
              have hx_Z : (v19.alloc (.cells (entC r19 (attempted { x with fails := 0 } p true now)) 31)).heap[v19.heap.size]? = some (.cells (entC r19 (attempted { x with fails := 0 } p true now)) 31) := World.alloc_heap_new _ _
              have he_Z : EntAt (v19.alloc (.cells (entC r19 (attempted { x with fails := 0 } p true now)) 31)) r19 (attempted { x with fails := 0 } p true now) := hd19.out.later ((Below.refl _ v19).alloc (Nat.le_refl _) _)
              obtain ⟨hc, hf, hr, hlt1⟩ := box_facts hs19.x
              obtain ⟨hc2, hf2, hr2, hlt2⟩ := box_facts hs19.p
              obtain ⟨hc_Y, hf_Y, hr_Y, hlt_Y⟩ := box_facts hx_Y
              obtain ⟨hc_Z, hf_Z, hr_Z, hlt_Z⟩ := box_facts hx_Z
              dsimp only
              go_wp2_with fail
              generalize (v19.alloc (.cells (entC r19 (attempted { x with fails := 0 } p true now)) 31)) = u19 at *
              generalize v19.heap.size = B_Z at *
              refine (hCount _ _ _ _ _ he_Z hs hka rfl).mono ?_
              rintro e v20 ⟨rfl, hb20⟩
              clear hc hf hr hlt1 hc2 hf2 hr2 hlt2 hc_Y hf_Y hr_Y hlt_Y hc_Z hf_Z hr_Z hlt_Z
              have hg20 := hb20
              have hs20 := hs19.later hg20
              have hB20 := below_step hB19 hg20
              have hx_Y := still_blk hg20 hx_Y
              have he_Y := he_Y.later hg20
              have hx_Z := still_blk hg20 hx_Z
              have he_Z := he_Z.later hg20
              obtain ⟨hc, hf, hr, hlt1⟩ := box_facts hs20.x
              obtain ⟨hc2, hf2, hr2, hlt2⟩ := box_facts hs20.p
              obtain ⟨hc_Y, hf_Y, hr_Y, hlt_Y⟩ := box_facts hx_Y
              obtain ⟨hc_Z, hf_Z, hr_Z, hlt_Z⟩ := box_facts hx_Z
              dsimp only
              go_wp2_with (go_at_call 12; refine (num_c _ _).mono ?_; rintro e w' ⟨rfl, rfl⟩)
              refine (known_c _).mono ?_
              rintro e v21 ⟨rfl, hb21⟩
              clear hc hf hr hlt1 hc2 hf2 hr2 hlt2 hc_Y hf_Y hr_Y hlt_Y hc_Z hf_Z hr_Z hlt_Z
              have hg21 := hb21
              have hs21 := hs20.later hg21
              have hB21 := below_step hB20 hg21
              have hx_Y := still_blk hg21 hx_Y
              have he_Y := he_Y.later hg21
              have hx_Z := still_blk hg21 hx_Z
              have he_Z := he_Z.later hg21
              obtain ⟨hc, hf, hr, hlt1⟩ := box_facts hs21.x
              obtain ⟨hc2, hf2, hr2, hlt2⟩ := box_facts hs21.p
              obtain ⟨hc_Y, hf_Y, hr_Y, hlt_Y⟩ := box_facts hx_Y
              obtain ⟨hc_Z, hf_Z, hr_Z, hlt_Z⟩ := box_facts hx_Z
              dsimp only
              go_wp2_with fail
              go_ret
              exact ⟨rfl, hB21⟩
          · clear hLU
            go_wp2_with (go_at_call 12; refine (num_c _ _).mono ?_; rintro e w' ⟨rfl, rfl⟩)
            refine (lUnlock_yes _ _ _ hs12.ent hox).mono ?_
            rintro e v22 ⟨r22, rfl, hb22, hd22⟩
            clear hc hf hr hlt1 hc2 hf2 hr2 hlt2
            have hg22 := hb22.alloc hb22.size (.cells (entC r22 { x with fails := 0 }) 31)
            have hs22 := hs12.later hg22
            have hB22 := below_step hB12 hg22
            have hx_Y : (v22.alloc (.cells (entC r22 { x with fails := 0 }) 31)).heap[v22.heap.size]? = some (.cells (entC r22 { x with fails := 0 }) 31) := World.alloc_heap_new _ _
            have he_Y : EntAt (v22.alloc (.cells (entC r22 { x with fails := 0 }) 31)) r22 { x with fails := 0 } := hd22.out.later ((Below.refl _ v22).alloc (Nat.le_refl _) _)
            obtain ⟨hc, hf, hr, hlt1⟩ := box_facts hs22.x
            obtain ⟨hc2, hf2, hr2, hlt2⟩ := box_facts hs22.p
            obtain ⟨hc_Y, hf_Y, hr_Y, hlt_Y⟩ := box_facts hx_Y
            dsimp only
            go_wp2_with fail
            generalize (v22.alloc (.cells (entC r22 { x with fails := 0 }) 31)) = u22 at *
            generalize v22.heap.size = B_Y at *
            refine (lAttempt_ok _ _ _ _ _ _ he_Y hs hku0 (locked_none rfl)).mono ?_
            rintro e v23 ⟨r23, rfl, hb23, hd23⟩
            clear hc hf hr hlt1 hc2 hf2 hr2 hlt2 hc_Y hf_Y hr_Y hlt_Y
            have hg23 := hb23.alloc hb23.size (.cells (entC r23 (attempted { x with fails := 0 } p true now)) 31)
            have hs23 := hs22.later hg23
            have hB23 := below_step hB22 hg23
            have hx_Y := still_blk hg23 hx_Y
            have he_Y := he_Y.later hg23
            have hx_Z : (v23.alloc (.cells (entC r23 (attempted { x with fails := 0 } p true now)) 31)).heap[v23.heap.size]? = some (.cells (entC r23 (attempted { x with fails := 0 } p true now)) 31) := World.alloc_heap_new _ _
            have he_Z : EntAt (v23.alloc (.cells (entC r23 (attempted { x with fails := 0 } p true now)) 31)) r23 (attempted { x with fails := 0 } p true now) := hd23.out.later ((Below.refl _ v23).alloc (Nat.le_refl _) _)
            obtain ⟨hc, hf, hr, hlt1⟩ := box_facts hs23.x
            obtain ⟨hc2, hf2, hr2, hlt2⟩ := box_facts hs23.p
            obtain ⟨hc_Y, hf_Y, hr_Y, hlt_Y⟩ := box_facts hx_Y
            obtain ⟨hc_Z, hf_Z, hr_Z, hlt_Z⟩ := box_facts hx_Z
            dsimp only
            go_wp2_with fail
            generalize (v23.alloc (.cells (entC r23 (attempted { x with fails := 0 } p true now)) 31)) = u23 at *
            generalize v23.heap.size = B_Z at *
            refine (hCount _ _ _ _ _ he_Z hs hka rfl).mono ?_
            rintro e v24 ⟨rfl, hb24⟩
            clear hc hf hr hlt1 hc2 hf2 hr2 hlt2 hc_Y hf_Y hr_Y hlt_Y hc_Z hf_Z hr_Z hlt_Z
            have hg24 := hb24
            have hs24 := hs23.later hg24
            have hB24 := below_step hB23 hg24
            have hx_Y := still_blk hg24 hx_Y
            have he_Y := he_Y.later hg24
            have hx_Z := still_blk hg24 hx_Z
            have he_Z := he_Z.later hg24
            obtain ⟨hc, hf, hr, hlt1⟩ := box_facts hs24.x
            obtain ⟨hc2, hf2, hr2, hlt2⟩ := box_facts hs24.p
            obtain ⟨hc_Y, hf_Y, hr_Y, hlt_Y⟩ := box_facts hx_Y
            obtain ⟨hc_Z, hf_Z, hr_Z, hlt_Z⟩ := box_facts hx_Z
            dsimp only
            go_wp2_with (go_at_call 12; refine (num_c _ _).mono ?_; rintro e w' ⟨rfl, rfl⟩)
            refine (known_c _).mono ?_
            rintro e v25 ⟨rfl, hb25⟩
            clear hc hf hr hlt1 hc2 hf2 hr2 hlt2 hc_Y hf_Y hr_Y hlt_Y hc_Z hf_Z hr_Z hlt_Z
            have hg25 := hb25
            have hs25 := hs24.later hg25
            have hB25 := below_step hB24 hg25
            have hx_Y := still_blk hg25 hx_Y
            have he_Y := he_Y.later hg25
            have hx_Z := still_blk hg25 hx_Z
            have he_Z := he_Z.later hg25
            obtain ⟨hc, hf, hr, hlt1⟩ := box_facts hs25.x
            obtain ⟨hc2, hf2, hr2, hlt2⟩ := box_facts hs25.p
            obtain ⟨hc_Y, hf_Y, hr_Y, hlt_Y⟩ := box_facts hx_Y
            obtain ⟨hc_Z, hf_Z, hr_Z, hlt_Z⟩ := box_facts hx_Z
            dsimp only
            go_wp2_with fail
            go_ret
            exact ⟨rfl, hB25⟩
        · clear hLU
          go_wp2_with (go_at_call 12; refine (num_c _ _).mono ?_; rintro e w' ⟨rfl, rfl⟩)
          refine (lUnlock_yes _ _ _ hs12.ent hox).mono ?_
          rintro e v26 ⟨r26, rfl, hb26, hd26⟩
          clear hc hf hr hlt1 hc2 hf2 hr2 hlt2
          have hg26 := hb26.alloc hb26.size (.cells (entC r26 { x with fails := 0 }) 31)
          have hs26 := hs12.later hg26
          have hB26 := below_step hB12 hg26
          have hx_Y : (v26.alloc (.cells (entC r26 { x with fails := 0 }) 31)).heap[v26.heap.size]? = some (.cells (entC r26 { x with fails := 0 }) 31) := World.alloc_heap_new _ _
          have he_Y : EntAt (v26.alloc (.cells (entC r26 { x with fails := 0 }) 31)) r26 { x with fails := 0 } := hd26.out.later ((Below.refl _ v26).alloc (Nat.le_refl _) _)
          obtain ⟨hc, hf, hr, hlt1⟩ := box_facts hs26.x
          obtain ⟨hc2, hf2, hr2, hlt2⟩ := box_facts hs26.p
          obtain ⟨hc_Y, hf_Y, hr_Y, hlt_Y⟩ := box_facts hx_Y
          dsimp only
          go_wp2_with fail
          generalize (v26.alloc (.cells (entC r26 { x with fails := 0 }) 31)) = u26 at *
          generalize v26.heap.size = B_Y at *
          refine (lAttempt_ok _ _ _ _ _ _ he_Y hs hku0 (locked_none rfl)).mono ?_
          rintro e v27 ⟨r27, rfl, hb27, hd27⟩
          clear hc hf hr hlt1 hc2 hf2 hr2 hlt2 hc_Y hf_Y hr_Y hlt_Y
          have hg27 := hb27.alloc hb27.size (.cells (entC r27 (attempted { x with fails := 0 } p true now)) 31)
          have hs27 := hs26.later hg27
          have hB27 := below_step hB26 hg27
          have hx_Y := still_blk hg27 hx_Y
          have he_Y := he_Y.later hg27
          have hx_Z : (v27.alloc (.cells (entC r27 (attempted { x with fails := 0 } p true now)) 31)).heap[v27.heap.size]? = some (.cells (entC r27 (attempted { x with fails := 0 } p true now)) 31) := World.alloc_heap_new _ _
          have he_Z : EntAt (v27.alloc (.cells (entC r27 (attempted { x with fails := 0 } p true now)) 31)) r27 (attempted { x with fails := 0 } p true now) := hd27.out.later ((Below.refl _ v27).alloc (Nat.le_refl _) _)
          obtain ⟨hc, hf, hr, hlt1⟩ := box_facts hs27.x
          obtain ⟨hc2, hf2, hr2, hlt2⟩ := box_facts hs27.p
          obtain ⟨hc_Y, hf_Y, hr_Y, hlt_Y⟩ := box_facts hx_Y
          obtain ⟨hc_Z, hf_Z, hr_Z, hlt_Z⟩ := box_facts hx_Z
          dsimp only
          go_wp2_with fail
          generalize (v27.alloc (.cells (entC r27 (attempted { x with fails := 0 } p true now)) 31)) = u27 at *
          generalize v27.heap.size = B_Z at *
          refine (hCount _ _ _ _ _ he_Z hs hka rfl).mono ?_
          rintro e v28 ⟨rfl, hb28⟩
          clear hc hf hr hlt1 hc2 hf2 hr2 hlt2 hc_Y hf_Y hr_Y hlt_Y hc_Z hf_Z hr_Z hlt_Z
          have hg28 := hb28
          have hs28 := hs27.later hg28
          have hB28 := below_step hB27 hg28
          have hx_Y := still_blk hg28 hx_Y
          have he_Y := he_Y.later hg28
          have hx_Z := still_blk hg28 hx_Z
          have he_Z := he_Z.later hg28
          obtain ⟨hc, hf, hr, hlt1⟩ := box_facts hs28.x
          obtain ⟨hc2, hf2, hr2, hlt2⟩ := box_facts hs28.p
          obtain ⟨hc_Y, hf_Y, hr_Y, hlt_Y⟩ := box_facts hx_Y
          obtain ⟨hc_Z, hf_Z, hr_Z, hlt_Z⟩ := box_facts hx_Z
          dsimp only
          go_wp2_with (go_at_call 12; refine (num_c _ _).mono ?_; rintro e w' ⟨rfl, rfl⟩)
          refine (known_c _).mono ?_
          rintro e v29 ⟨rfl, hb29⟩
          clear hc hf hr hlt1 hc2 hf2 hr2 hlt2 hc_Y hf_Y hr_Y hlt_Y hc_Z hf_Z hr_Z hlt_Z
          have hg29 := hb29
          have hs29 := hs28.later hg29
          have hB29 := below_step hB28 hg29
          have hx_Y := still_blk hg29 hx_Y
          have he_Y := he_Y.later hg29
          have hx_Z := still_blk hg29 hx_Z
          have he_Z := he_Z.later hg29
          obtain ⟨hc, hf, hr, hlt1⟩ := box_facts hs29.x
          obtain ⟨hc2, hf2, hr2, hlt2⟩ := box_facts hs29.p
          obtain ⟨hc_Y, hf_Y, hr_Y, hlt_Y⟩ := box_facts hx_Y
          obtain ⟨hc_Z, hf_Z, hr_Z, hlt_Z⟩ := box_facts hx_Z
          dsimp only
          go_wp2_with fail
          go_ret
          exact ⟨rfl, hB29⟩
      · have h0' : decide (0 < p.fails) = false := by simp [h0]
        rw [h0'] at hLF
        clear hLH
        go_wp2_with fail
        refine (hLocked _ _ _ _ false _ hsr.ent hs hok1 hLF).mono ?_
        rintro e v30 ⟨rfl, hb30⟩
        clear hc hf hr hlt1 hc2 hf2 hr2 hlt2
        have hg30 := hb30
        have hs30 := hsr.later hg30
        have hB30 := below_step hBr hg30
        obtain ⟨hc, hf, hr, hlt1⟩ := box_facts hs30.x
        obtain ⟨hc2, hf2, hr2, hlt2⟩ := box_facts hs30.p
        dsimp only
        go_wp2_with fail
        refine (cUntil_no _ _ _ _ _ hs30.ent hs hok1 hLF).mono ?_
        rintro e v31 ⟨rfl, hb31⟩
        clear hc hf hr hlt1 hc2 hf2 hr2 hlt2
        have hg31 := hb31
        have hs31 := hs30.later hg31
        have hB31 := below_step hB30 hg31
        obtain ⟨hc, hf, hr, hlt1⟩ := box_facts hs31.x
        obtain ⟨hc2, hf2, hr2, hlt2⟩ := box_facts hs31.p
        dsimp only
        go_wp2_with (go_at_call 12; refine (num_c _ _).mono ?_; rintro e w' ⟨rfl, rfl⟩)
        refine (lUnlock_yes _ _ _ hs31.ent hox).mono ?_
        rintro e v32 ⟨r32, rfl, hb32, hd32⟩
        clear hc hf hr hlt1 hc2 hf2 hr2 hlt2
        have hg32 := hb32.alloc hb32.size (.cells (entC r32 { x with fails := 0 }) 31)
        have hs32 := hs31.later hg32
        have hB32 := below_step hB31 hg32
        have hx_Y : (v32.alloc (.cells (entC r32 { x with fails := 0 }) 31)).heap[v32.heap.size]? = some (.cells (entC r32 { x with fails := 0 }) 31) := World.alloc_heap_new _ _
        have he_Y : EntAt (v32.alloc (.cells (entC r32 { x with fails := 0 }) 31)) r32 { x with fails := 0 } := hd32.out.later ((Below.refl _ v32).alloc (Nat.le_refl _) _)
        obtain ⟨hc, hf, hr, hlt1⟩ := box_facts hs32.x
        obtain ⟨hc2, hf2, hr2, hlt2⟩ := box_facts hs32.p
        obtain ⟨hc_Y, hf_Y, hr_Y, hlt_Y⟩ := box_facts hx_Y
        dsimp only
        go_wp2_with fail
        generalize (v32.alloc (.cells (entC r32 { x with fails := 0 }) 31)) = u32 at *
        generalize v32.heap.size = B_Y at *
        refine (lAttempt_ok _ _ _ _ _ _ he_Y hs hku0 (locked_none rfl)).mono ?_
        rintro e v33 ⟨r33, rfl, hb33, hd33⟩
        clear hc hf hr hlt1 hc2 hf2 hr2 hlt2 hc_Y hf_Y hr_Y hlt_Y
        have hg33 := hb33.alloc hb33.size (.cells (entC r33 (attempted { x with fails := 0 } p true now)) 31)
        have hs33 := hs32.later hg33
        have hB33 := below_step hB32 hg33
        have hx_Y := still_blk hg33 hx_Y
        have he_Y := he_Y.later hg33
        have hx_Z : (v33.alloc (.cells (entC r33 (attempted { x with fails := 0 } p true now)) 31)).heap[v33.heap.size]? = some (.cells (entC r33 (attempted { x with fails := 0 } p true now)) 31) := World.alloc_heap_new _ _
        have he_Z : EntAt (v33.alloc (.cells (entC r33 (attempted { x with fails := 0 } p true now)) 31)) r33 (attempted { x with fails := 0 } p true now) := hd33.out.later ((Below.refl _ v33).alloc (Nat.le_refl _) _)
        obtain ⟨hc, hf, hr, hlt1⟩ := box_facts hs33.x
        obtain ⟨hc2, hf2, hr2, hlt2⟩ := box_facts hs33.p
        obtain ⟨hc_Y, hf_Y, hr_Y, hlt_Y⟩ := box_facts hx_Y
        obtain ⟨hc_Z, hf_Z, hr_Z, hlt_Z⟩ := box_facts hx_Z
        dsimp only
        go_wp2_with fail
        generalize (v33.alloc (.cells (entC r33 (attempted { x with fails := 0 } p true now)) 31)) = u33 at *
        generalize v33.heap.size = B_Z at *
        refine (hCount _ _ _ _ _ he_Z hs hka rfl).mono ?_
        rintro e v34 ⟨rfl, hb34⟩
        clear hc hf hr hlt1 hc2 hf2 hr2 hlt2 hc_Y hf_Y hr_Y hlt_Y hc_Z hf_Z hr_Z hlt_Z
        have hg34 := hb34
        have hs34 := hs33.later hg34
        have hB34 := below_step hB33 hg34
        have hx_Y := still_blk hg34 hx_Y
        have he_Y := he_Y.later hg34
        have hx_Z := still_blk hg34 hx_Z
        have he_Z := he_Z.later hg34
        obtain ⟨hc, hf, hr, hlt1⟩ := box_facts hs34.x
        obtain ⟨hc2, hf2, hr2, hlt2⟩ := box_facts hs34.p
        obtain ⟨hc_Y, hf_Y, hr_Y, hlt_Y⟩ := box_facts hx_Y
        obtain ⟨hc_Z, hf_Z, hr_Z, hlt_Z⟩ := box_facts hx_Z
        dsimp only
        go_wp2_with (go_at_call 12; refine (num_c _ _).mono ?_; rintro e w' ⟨rfl, rfl⟩)
        refine (known_c _).mono ?_
        rintro e v35 ⟨rfl, hb35⟩
        clear hc hf hr hlt1 hc2 hf2 hr2 hlt2 hc_Y hf_Y hr_Y hlt_Y hc_Z hf_Z hr_Z hlt_Z
        have hg35 := hb35
        have hs35 := hs34.later hg35
        have hB35 := below_step hB34 hg35
        have hx_Y := still_blk hg35 hx_Y
        have he_Y := he_Y.later hg35
        have hx_Z := still_blk hg35 hx_Z
        have he_Z := he_Z.later hg35
        obtain ⟨hc, hf, hr, hlt1⟩ := box_facts hs35.x
        obtain ⟨hc2, hf2, hr2, hlt2⟩ := box_facts hs35.p
        obtain ⟨hc_Y, hf_Y, hr_Y, hlt_Y⟩ := box_facts hx_Y
        obtain ⟨hc_Z, hf_Z, hr_Z, hlt_Z⟩ := box_facts hx_Z
        dsimp only
        go_wp2_with fail
        go_ret
        exact ⟨rfl, hB35⟩
theorem holds_c (r : ERaw) (d : Entry) (p : Policy) (now later : Int) (w : World) (he : EntAt w r d) (hs : p.name.size ≤ lim) : Calls Tryz.prog 5 #[.agg (entC r d), .agg (polC p), .int .i64 now, .int .i64 later] w fun e w' => e = .returned (.bool true) ∧ Below w.heap.size w w' := by
  by_cases hA : 40 < p.fails
  · exact holds_A r d p now later w he hA
  by_cases hl : later < 0
  · exact holds_B r d p now later w he (by omega) hl
  by_cases hl1 : 1099511627776 < later
  · exact holds_C r d p now later w he (by omega) (by omega) hl1
  cases hok : okAll d p now
  · exact holds_D r d p now later w he hs (by omega) (by omega) (by omega) hok
  cases HT : isTime (now + later)
  · exact holds_E r d p now later w he hs (by omega) (by omega) (by omega) hok HT
  · exact holds_F r d p now later w he hs (by omega) (by omega) (by omega) hok HT
end Go.Proofs.YtknppbjbnpddaaaGreatDoor
