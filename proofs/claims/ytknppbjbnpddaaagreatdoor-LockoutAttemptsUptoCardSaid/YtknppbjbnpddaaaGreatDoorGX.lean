/- Part X of the proof about watchword's lockout: texts Q1 Q2 Q3 Q4. -/
import Derived.Test.YtknppbjbnpddaaaGreatDoorGI
import Derived.Test.YtknppbjbnpddaaaGreatDoorGK
import Derived.Test.YtknppbjbnpddaaaGreatDoorGC
import Derived.Test.YtknppbjbnpddaaaGreatDoorGQ

namespace Go.WW
open Go.RowKit
section
variable {w w' : World} (h : ∀ k, k < w.heap.size → w'.heap[k]? = w.heap[k]?)
include h
theorem RowsAt.same {k : Nat} {a : Option Addr} {n : Nat} {R R' : Nat → Array Value → Prop} (hR : ∀ i cs, R i cs → R' i cs) (x : RowsAt w k a n R) : RowsAt w' k a n R' := by
  refine ⟨x.1, fun i hi => ?_⟩
  obtain ⟨b, o, cs, ha, hr, hR1⟩ := x.2 i hi
  exact ⟨b, o, cs, ha, by rw [row?_of_block (h b (row?_lt hr))]; exact hr, hR i cs hR1⟩
theorem CellsAt.same {a : Option Addr} {n : Nat} {R R' : Nat → Value → Prop} (hR : ∀ i cs, R i cs → R' i cs) (x : CellsAt w a n R) : CellsAt w' a n R' := by
  refine ⟨x.1, fun i hi => ?_⟩
  obtain ⟨b, o, cs, ha, hr, hR1⟩ := x.2 i hi
  exact ⟨b, o, cs, ha, (World.cell?_of_block (a := ⟨b, o + i, Option.none⟩) (h b (World.block_lt_of_cell? w _ hr))).trans hr, hR i cs hR1⟩
theorem StrsAt.same {a : Option Addr} {l : List ByteArray} (x : StrsAt w a l) : StrsAt w' a l := CellsAt.same h (fun _ _ y => y) x
theorem BytesAt.same {a : Option Addr} {l : List UInt8} (x : BytesAt w a l) : BytesAt w' a l := CellsAt.same h (fun _ _ y => y) x
theorem PrinAt.same {s : Sl} {p : Prin} (x : PrinAt w s p) : PrinAt w' s p := ⟨x.1.same h, x.2⟩
theorem PrinsAt.same {a : Option Addr} {l : List Prin} (x : PrinsAt w a l) : PrinsAt w' a l := RowsAt.same h (fun _ _ ⟨p, s, y1, y2, y3⟩ => ⟨p, s, y1, y2, y3.same h⟩) x
theorem KeyAt.same {s : Sl} {k : Key} (x : KeyAt w s k) : KeyAt w' s k := BytesAt.same h x
theorem KeysAt.same {a : Option Addr} {l : List Key} (x : KeysAt w a l) : KeysAt w' a l := RowsAt.same h (fun _ _ ⟨p, s, y1, y2, y3⟩ => ⟨p, s, y1, y2, y3.same h⟩) x
theorem SetAt.same {s : Sl} {k : KeySet} (x : SetAt w s k) : SetAt w' s k := ⟨x.1.same h, x.2⟩
theorem SetsAt.same {a : Option Addr} {l : List KeySet} (x : SetsAt w a l) : SetsAt w' a l := RowsAt.same h (fun _ _ ⟨p, s, y1, y2, y3⟩ => ⟨p, s, y1, y2, y3.same h⟩) x
theorem HistAt.same {a : Option Addr} {l : List (List UInt8)} (x : HistAt w a l) : HistAt w' a l := CellsAt.same h (fun _ _ ⟨p, s, y1, y2, y3⟩ => ⟨p, s, y1, y2, y3.same h⟩) x
theorem EntAt.same {r : ERaw} {d : Entry} (x : EntAt w r d) : EntAt w' r d :=
  ⟨x.name.same h, x.aliases.same h, x.keys.same h, x.targets.same h, x.delegates.same h, x.history.same h, x.policy, x.attrs⟩
end
theorem EntAt.dep {w : World} {r : ERaw} {d : Entry} (x : EntAt w r d) : Dep w (fun k => k < w.heap.size) (fun v => EntAt v r d) := fun _ h => x.same h
/-- An entry stays an entry if its numbers change. -/
theorem EntAt.upd {w : World} {r : ERaw} {d : Entry} {f l s : Int} (x : EntAt w r d) : EntAt w r { d with fails := f, lastFail := l, lastSuccess := s } := ⟨x.name, x.aliases, x.keys, x.targets, x.delegates, x.history, x.policy, x.attrs⟩
end Go.WW

namespace Go.WW
theorem samePrin_self (p : Prin) : samePrin p p = true := by simp [samePrin]
theorem int_self (a : Int) : (a == a) = true ∧ (a != a) = false := by simp
theorem str_self (a : ByteArray) : (a.toList == a.toList) = true := by simp
end Go.WW
namespace Go.Proofs.YtknppbjbnpddaaaGreatDoor
open Go.RowKit Go.WW
theorem bytes_text (w : World) (a : Option Addr) (l : List UInt8) (cap : Nat) (h : BytesAt w a l) : (convert 74 9 (.slice a l.length cap)).run Tryz.prog w = .ok (.string ⟨l.toArray⟩) w := by
  cases a with
  | none =>
    cases l with
    | nil => rw [run_convert_bytes_string w _ _ 5 _ _ _ Tryz.underlying74 Tryz.underlying5 Tryz.underlying9]; rfl
    | cons c l => obtain ⟨b, o, h1, _⟩ := h.get 0 (by simp); cases h1
  | some A =>
    cases l with
    | nil =>
      rw [run_convert_bytes_string w _ _ 5 _ _ _ Tryz.underlying74 Tryz.underlying5 Tryz.underlying9]
      exact run_bytesToString w A 0 cap [] (run_loadCells_list (P := Tryz.prog) w A [] (fun j v hv => by simp at hv))
    | cons c l =>
      obtain ⟨b, o, h1, _⟩ := h.get 0 (by simp)
      cases h1
      exact run_bytes_text w _ _ 5 Tryz.underlying74 Tryz.underlying5 Tryz.underlying9 b o cap (c :: l) (fun i hi => h.at i hi)
set_option maxHeartbeats 1000000 in
theorem sameKey_eq (s t : Sl) (k : Key) (w : World) (h : KeyAt w s k) (h' : KeyAt w t k) : Calls Tryz.prog 69 #[.agg (keyC s k), .agg (keyC t k)] w fun e w' => e = .returned (.bool true) ∧ Below w.heap.size w w' := by
  have hB : Below w.heap.size w ((w.alloc (.cells (keyC s k) 94)).alloc (.cells (keyC t k) 94)) := ((Below.refl _ _).alloc (Nat.le_refl _) _).alloc (by simp) _
  have c1 := bytes_text _ s.a k.bytes s.cap (BytesAt.later hB h)
  have c2 := bytes_text _ t.a k.bytes t.cap (BytesAt.later hB h')
  obtain ⟨e1, _⟩ := int_self k.profile
  obtain ⟨e2, _⟩ := int_self k.version
  have e3 := str_self ⟨k.bytes.toArray⟩
  go_enter Tryz.func69, Tryz.ntmps69
  go_wp2_with fail
  go_ret
  exact ⟨rfl, hB⟩
theorem samePrincipals_nil (a a' : Option Addr) (cap cap' : Nat) (w : World) : Calls Tryz.prog 40 #[.slice a 0 cap, .slice a' 0 cap'] w fun e w' => e = .returned (.bool true) ∧ Below w.heap.size w w' := by
  go_enter Tryz.func40, Tryz.ntmps40
  go_wp2
  refine wp_loop_rounds 1 ?_
  rw [rounds_succ]
  go_wp2
  go_ret
  exact ⟨rfl, Below.refl _ _⟩
set_option maxHeartbeats 1000000 in
theorem samePrincipals_eq (a a' : Option Addr) (cap cap' : Nat) (l : List Prin) (w : World) (hl : PrinsAt w a l) (hl' : PrinsAt w a' l) : Calls Tryz.prog 40 #[.slice a l.length cap, .slice a' l.length cap'] w fun e w' => e = .returned (.bool true) ∧ Below w.heap.size w w' := by
  have hn : l.length ≤ 4294967000 := hl.1
  rcases RowsAt.addr hl with h0 | ⟨b, o, rfl, hb⟩
  · obtain rfl : l = [] := List.eq_nil_of_length_eq_zero h0
    exact samePrincipals_nil a a' cap cap' w
  rcases RowsAt.addr hl' with h0 | ⟨b', o', rfl, hb'⟩
  · obtain rfl : l = [] := List.eq_nil_of_length_eq_zero h0
    exact samePrincipals_nil _ a' cap cap' w
  obtain ⟨_, e2⟩ := int_self (l.length : Int)
  go_enter Tryz.func40, Tryz.ntmps40
  go_wp2
  go_loopw [5] (fun i wr => Below w.heap.size w wr ∧ ∃ k : Nat, k ≤ l.length ∧ i = .int .i64 k) (fun i _ => l.length - (intOf i).toNat)
  case atStart => exact ⟨Below.refl _ _, 0, Nat.zero_le _, rfl⟩
  case round =>
    obtain ⟨hbr, i, hi, rfl⟩ := hrel
    by_cases hlt : i < l.length
    · obtain ⟨t, hc, hp⟩ := hl.at i hlt
      obtain ⟨t', hc', hp'⟩ := hl'.at i hlt
      have hii : (i : Int) < (l.length : Int) := by omega
      have hs := samePrin_self l[i]
      go_wp2
      refine wp_region_later hbr (by kernel_rfl) (by kernel_rfl) ?_
      repeat (go_big_quiet_step ((go_at_call 35; rename_i xw; exact Calls.later_of (hs ▸ samePrincipal_c _ _ _ _ _ (hp.later xw.b) (hp'.later xw.b)))))
      refine wpQuiet_nil ?_
      intro w2 hb2
      go_wp2
      go_roundw
      case rel => exact ⟨hb2, i + 1, by omega, by go_num⟩
      case measure => simp [intOf]; omega
    · go_wp2
      go_ret
      exact ⟨rfl, hbr⟩
set_option maxRecDepth 100000 in
set_option maxHeartbeats 1000000 in
theorem sameSet_eq (s t : Sl) (x : KeySet) (w : World) (hx : SetAt w s x) (hx' : SetAt w t x) : Calls Tryz.prog 39 #[.agg (setC s x), .agg (setC t x)] w fun e w' => e = .returned (.bool true) ∧ Below w.heap.size w w' := by
  have hl : x.keys.length ≤ 4294967000 := hx.1.1
  have hB : Below w.heap.size w ((w.alloc (.cells (setC s x) 59)).alloc (.cells (setC t x) 59)) := ((Below.refl _ _).alloc (Nat.le_refl _) _).alloc (by simp) _
  obtain ⟨_, e1⟩ := int_self x.version
  obtain ⟨_, e2⟩ := int_self x.iterations
  obtain ⟨_, e3⟩ := int_self x.created
  obtain ⟨_, e4⟩ := int_self (x.keys.length : Int)
  have e5 := str_self x.salt
  go_enter Tryz.func39, Tryz.ntmps39
  go_wp2
  go_loopw [5] (fun i wr => Below ((w.alloc (.cells (setC s x) 59)).alloc (.cells (setC t x) 59)).heap.size ((w.alloc (.cells (setC s x) 59)).alloc (.cells (setC t x) 59)) wr ∧ ∃ k : Nat, k ≤ x.keys.length ∧ i = .int .i64 k) (fun i _ => x.keys.length - (intOf i).toNat)
  case atStart => exact ⟨Below.refl _ _, 0, Nat.zero_le _, rfl⟩
  case round =>
    obtain ⟨hbr, k, hk, rfl⟩ := hrel
    obtain ⟨hcc, hff, hrr⟩ := bcell hbr
    by_cases hlt : k < x.keys.length
    · obtain ⟨b, o, t1, ha, hc, hp⟩ := hx.1.get k hlt
      obtain ⟨b', o', t2, ha', hc', hp'⟩ := hx'.1.get k hlt
      have hb : b < w.heap.size := row?_lt hc
      have hb' : b' < w.heap.size := row?_lt hc'
      have hb1 : b < w.heap.size + 1 + 1 := by omega
      have hb1' : b' < w.heap.size + 1 + 1 := by omega
      have hki : (k : Int) < (x.keys.length : Int) := by omega
      go_wp2
      refine wp_region_later hbr (by kernel_rfl) (by kernel_rfl) ?_
      repeat (go_big_quiet_step ((go_at_call 69; rename_i xw; exact Calls.later_of (sameKey_eq _ _ _ _ ((hp.later hB).later xw.b) ((hp'.later hB).later xw.b)))))
      refine wpQuiet_nil ?_
      intro w2 hb2
      go_wp2
      go_roundw
      case rel => exact ⟨hb2, k + 1, by omega, by go_num⟩
      case measure => simp [intOf]; omega
    · go_wp2
      go_ret
      exact ⟨rfl, hB.trans (hbr.mono (by simp; omega))⟩
end Go.Proofs.YtknppbjbnpddaaaGreatDoor

namespace Go.Proofs.YtknppbjbnpddaaaGreatDoor
open Go.RowKit Go.WW
theorem samePrincipal_eq (s t : Sl) (p : Prin) (w : World) (hp : PrinAt w s p) (hq : PrinAt w t p) : Calls Tryz.prog 35 #[.agg (prinC s p), .agg (prinC t p)] w fun e w' => e = .returned (.bool true) ∧ Below w.heap.size w w' := by
  have x := samePrincipal_c s t p p w hp hq; rw [samePrin_self] at x; exact x
set_option maxRecDepth 100000 in
set_option maxHeartbeats 4000000 in
theorem same_eq (r r' : ERaw) (d : Entry) (w : World) (he : EntAt w r d) (he' : EntAt w r' d) : Calls Tryz.prog 18 #[.agg (entC r d), .agg (entC r' d)] w fun e w' => e = .returned (.bool true) ∧ Below w.heap.size w w' := by
  have hB : Below w.heap.size w ((w.alloc (.cells (entC r d) 31)).alloc (.cells (entC r' d) 31)) := ((Below.refl _ _).alloc (Nat.le_refl _) _).alloc (by simp) _
  have hl1 : d.keys.length ≤ 4294967000 := he.keys.1
  have hl2 : d.history.length ≤ 4294967000 := he.history.1
  obtain ⟨_, e0⟩ := int_self (d.keys.length : Int)
  obtain ⟨_, e1⟩ := int_self (d.history.length : Int)
  obtain ⟨_, e2⟩ := int_self d.attrs
  obtain ⟨_, e3⟩ := int_self d.master
  obtain ⟨_, e4⟩ := int_self d.expires
  obtain ⟨_, e5⟩ := int_self d.pwExpires
  obtain ⟨_, e6⟩ := int_self d.maxLife
  obtain ⟨_, e7⟩ := int_self d.maxRenew
  have e8 := str_self d.policy
  obtain ⟨g0, _⟩ := int_self d.fails
  obtain ⟨g1, _⟩ := int_self d.lastFail
  obtain ⟨g2, _⟩ := int_self d.lastSuccess
  go_enter Tryz.func18, Tryz.ntmps18
  go_wp2_with fail
  go_loopw [5] (fun i wr => Below ((w.alloc (.cells (entC r d) 31)).alloc (.cells (entC r' d) 31)).heap.size ((w.alloc (.cells (entC r d) 31)).alloc (.cells (entC r' d) 31)) wr ∧ ∃ k : Nat, k ≤ d.keys.length ∧ i = .int .i64 k) (fun i _ => d.keys.length - (intOf i).toNat)
  case atStart => exact ⟨Below.refl _ _, 0, Nat.zero_le _, rfl⟩
  case round =>
    obtain ⟨hbr, k, hk, rfl⟩ := hrel
    obtain ⟨hcc, hff, hrr⟩ := bcell hbr
    by_cases hlt : k < d.keys.length
    · obtain ⟨b, o, t1, ha, hc, hp⟩ := he.keys.get k hlt
      obtain ⟨b', o', t2, ha', hc', hp'⟩ := he'.keys.get k hlt
      have hb : b < w.heap.size := row?_lt hc
      have hb' : b' < w.heap.size := row?_lt hc'
      have hb1 : b < w.heap.size + 1 + 1 := by omega
      have hb1' : b' < w.heap.size + 1 + 1 := by omega
      have hki : (k : Int) < (d.keys.length : Int) := by omega
      go_wp2_with fail
      refine wp_region_later hbr (by kernel_rfl) (by kernel_rfl) ?_
      repeat (go_big_quiet_step ((go_at_call 39; rename_i xw; exact Calls.later_of (sameSet_eq _ _ _ _ ((hp.later hB).later xw.b) ((hp'.later hB).later xw.b)))))
      refine wpQuiet_nil ?_
      intro w2 hb2
      go_wp2_with fail
      go_roundw
      case rel => exact ⟨hb2, k + 1, by omega, by go_num⟩
      case measure => simp [intOf]; omega
    · obtain ⟨wo, rfl⟩ : ∃ wo : World, wo = wr := ⟨_, rfl⟩
      go_wp2_with fail
      go_loopw [6] (fun i wr => Below ((w.alloc (.cells (entC r d) 31)).alloc (.cells (entC r' d) 31)).heap.size ((w.alloc (.cells (entC r d) 31)).alloc (.cells (entC r' d) 31)) wr ∧ ∃ k : Nat, k ≤ d.history.length ∧ i = .int .i64 k) (fun i _ => d.history.length - (intOf i).toNat)
      case atStart => exact ⟨hbr, 0, Nat.zero_le _, rfl⟩
      case round =>
        obtain ⟨hbr2, k2, hk2, rfl⟩ := hrel
        clear hcc hff hrr
        obtain ⟨hcc, hff, hrr⟩ := bcell hbr2
        by_cases hlt2 : k2 < d.history.length
        · obtain ⟨b, o, t1, ha, hc, hp⟩ := he.history.get k2 hlt2
          obtain ⟨b', o', t2, ha', hc', hp'⟩ := he'.history.get k2 hlt2
          have hb : b < w.heap.size := World.block_lt_of_cell? w _ hc
          have hb' : b' < w.heap.size := World.block_lt_of_cell? w _ hc'
          have hb1 : b < w.heap.size + 1 + 1 := by omega
          have hb1' : b' < w.heap.size + 1 + 1 := by omega
          have hki : (k2 : Int) < (d.history.length : Int) := by omega
          have c1 : ∀ x : Later ((w.alloc (.cells (entC r d) 31)).alloc (.cells (entC r' d) 31)), (convert 74 9 (.slice t1.a d.history[k2].length t1.cap)).run Tryz.prog x.w = .ok (.string ⟨d.history[k2].toArray⟩) x.w := fun x => bytes_text _ _ _ _ ((hp.later hB).later x.b)
          have c2 : ∀ x : Later ((w.alloc (.cells (entC r d) 31)).alloc (.cells (entC r' d) 31)), (convert 74 9 (.slice t2.a d.history[k2].length t2.cap)).run Tryz.prog x.w = .ok (.string ⟨d.history[k2].toArray⟩) x.w := fun x => bytes_text _ _ _ _ ((hp'.later hB).later x.b)
          have e9 := str_self ⟨d.history[k2].toArray⟩
          go_wp2_with fail
          refine wp_region_later hbr2 (by kernel_rfl) (by kernel_rfl) ?_
          repeat (go_big_quiet_step (fail))
          refine wpQuiet_nil ?_
          intro w2 hb2
          go_wp2_with fail
          go_roundw
          case rel => first | exact ⟨hb2, k2 + 1, by omega, by go_num⟩ | ((repeat apply Exists.intro); exact ⟨⟨hb2, k2 + 1, by omega, by go_num⟩, rfl⟩)
          case measure => simp [intOf]; omega
        · go_wp2_with fail
          refine (samePrincipal_eq _ _ _ _ ((he.name.later hB).later hbr2) ((he'.name.later hB).later hbr2)).mono ?_
          rintro e w3 ⟨rfl, hy⟩
          have hb3 := below_step hbr2 hy
          clear hcc hff hrr hy
          obtain ⟨hcc, hff, hrr⟩ := bcell hb3
          dsimp only
          go_wp2_with fail
          refine (samePrincipals_eq _ _ _ _ _ _ ((he.aliases.later hB).later hb3) ((he'.aliases.later hB).later hb3)).mono ?_
          rintro e w4 ⟨rfl, hy⟩
          have hb4 := below_step hb3 hy
          clear hcc hff hrr hy
          obtain ⟨hcc, hff, hrr⟩ := bcell hb4
          dsimp only
          go_wp2_with fail
          refine (samePrincipals_eq _ _ _ _ _ _ ((he.targets.later hB).later hb4) ((he'.targets.later hB).later hb4)).mono ?_
          rintro e w5 ⟨rfl, hy⟩
          have hb5 := below_step hb4 hy
          clear hcc hff hrr hy
          obtain ⟨hcc, hff, hrr⟩ := bcell hb5
          dsimp only
          go_wp2_with fail
          refine (samePrincipals_eq _ _ _ _ _ _ ((he.delegates.later hB).later hb5) ((he'.delegates.later hB).later hb5)).mono ?_
          rintro e w6 ⟨rfl, hy⟩
          have hb6 := below_step hb5 hy
          clear hcc hff hrr hy
          obtain ⟨hcc, hff, hrr⟩ := bcell hb6
          dsimp only
          go_wp2_with fail
          go_ret
          exact ⟨rfl, hB.trans (hb6.mono (by simp; omega))⟩
end Go.Proofs.YtknppbjbnpddaaaGreatDoor

namespace Go.Proofs.YtknppbjbnpddaaaGreatDoor
open Go.RowKit Go.WW
set_option maxRecDepth 100000 in
set_option maxHeartbeats 4000000 in
theorem attempted28_yes (r : ERaw) (d : Entry) (p : Policy) (now : Int) (w : World) (hs : Small d p) :
    Calls Tryz.prog 20 #[.agg (entC r d), .agg (polC p), .bool true, .int .i64 now] w fun e w' => e = .returned (.agg (entC r (attempted d p true now))) ∧ Below w.heap.size w w' := by
  have hB : Below w.heap.size w (((w.alloc (.cells (entC r d) 31)).alloc (.cells (polC p) 33)).alloc (.cells (entC zeroR zeroD) 31)) := (((Below.refl _ _).alloc (Nat.le_refl _) _).alloc (by simp) _).alloc (by simp; omega) _
  have hz : canPut (((w.alloc (.cells (entC r d) 31)).alloc (.cells (polC p) 33)).alloc (.cells (entC zeroR zeroD) 31)) (w.heap.size + 1 + 1) 0 17 = true := by simp [go_sem]
  have hx0 : (((w.alloc (.cells (entC r d) 31)).alloc (.cells (polC p) 33)).alloc (.cells (entC zeroR zeroD) 31)).heap[w.heap.size]? = some (.cells (entC r d) 31) := by rw [Below.heap_alloc _ _ _ (by simp; omega)]; exact second_blk w _ _
  obtain ⟨hc0, hc1⟩ := count_bounds now hs
  go_enter Tryz.func20, Tryz.ntmps20
  go_wp2_with fail
  rw [← zeroE_lit]
  refine (count28_c _ _ _ _ _ hs).mono ?_
  rintro e w2 ⟨rfl, hb2⟩
  have hVx := still_blk hb2 hx0
  have hB2 := below_step hB hb2
  have hpp := bput hb2
  have hsz : w.heap.size + 1 + 1 < w2.heap.size := by have := hb2.size; simp at this; omega
  have hsz0 : w.heap.size < w2.heap.size := by omega
  have hneA : w.heap.size + 1 + 1 ≠ w.heap.size := by omega
  have hatt : entC r (attempted d p true now) = entC r (attempted d p true now) := rfl
  have hfo : failsOf d p true now = 0 := rfl
  generalize countOf d p now = c at *
  have hy := (setCell_blk (o := 13) (.int .i64 now) (setCell_blk (o := 11) (.int .i64 0) hVx))
  have hrow0 : row? ((w2.setCell ⟨w.heap.size, 11, none⟩ (.int .i64 0)).setCell ⟨w.heap.size, 13, none⟩ (.int .i64 now)) w.heap.size 0 17 = some (entC r { d with fails := 0, lastSuccess := now }) := (row?_of_cells hy).trans (by kernel_rfl)
  have hcp : canPut ((w2.setCell ⟨w.heap.size, 11, none⟩ (.int .i64 0)).setCell ⟨w.heap.size, 13, none⟩ (.int .i64 now)) (w.heap.size + 1 + 1) 0 17 = true := by
    rw [canPut_setCell_other hneA, canPut_setCell_other hneA]
    exact (hpp (w.heap.size + 1 + 1) 0 17 (by simp)).trans hz
  clear hy
  obtain ⟨hc, hf, hr, hlt⟩ := box_facts hVx
  clear hr
  go_wp2_with fail
  have hrow := row?_putRow_whole (entC_size r { d with fails := 0, lastSuccess := now }) hcp
  exact bodyPost_ret (results_row (by rfl) Tryz.underlying31 rfl (by kernel_rfl) rfl hrow) rfl ⟨by unfold attempted; rw [hfo]; rfl, Go.WW.Below.putRow ((hB2.setCell (by simp) _).setCell (by simp) _) (by omega)⟩
set_option maxRecDepth 100000 in
set_option maxHeartbeats 4000000 in
theorem attempted28_no (r : ERaw) (d : Entry) (p : Policy) (now : Int) (w : World) (hs : Small d p) :
    Calls Tryz.prog 20 #[.agg (entC r d), .agg (polC p), .bool false, .int .i64 now] w fun e w' => e = .returned (.agg (entC r (attempted d p false now))) ∧ Below w.heap.size w w' := by
  have hB : Below w.heap.size w (((w.alloc (.cells (entC r d) 31)).alloc (.cells (polC p) 33)).alloc (.cells (entC zeroR zeroD) 31)) := (((Below.refl _ _).alloc (Nat.le_refl _) _).alloc (by simp) _).alloc (by simp; omega) _
  have hz : canPut (((w.alloc (.cells (entC r d) 31)).alloc (.cells (polC p) 33)).alloc (.cells (entC zeroR zeroD) 31)) (w.heap.size + 1 + 1) 0 17 = true := by simp [go_sem]
  have hx0 : (((w.alloc (.cells (entC r d) 31)).alloc (.cells (polC p) 33)).alloc (.cells (entC zeroR zeroD) 31)).heap[w.heap.size]? = some (.cells (entC r d) 31) := by rw [Below.heap_alloc _ _ _ (by simp; omega)]; exact second_blk w _ _
  obtain ⟨hc0, hc1⟩ := count_bounds now hs
  go_enter Tryz.func20, Tryz.ntmps20
  go_wp2_with fail
  rw [← zeroE_lit]
  refine (count28_c _ _ _ _ _ hs).mono ?_
  rintro e w2 ⟨rfl, hb2⟩
  have hVx := still_blk hb2 hx0
  have hB2 := below_step hB hb2
  have hpp := bput hb2
  have hsz : w.heap.size + 1 + 1 < w2.heap.size := by have := hb2.size; simp at this; omega
  have hsz0 : w.heap.size < w2.heap.size := by omega
  have hneA : w.heap.size + 1 + 1 ≠ w.heap.size := by omega
  have hatt : entC r (attempted d p false now) = entC r (attempted d p false now) := rfl
  have hfo : failsOf d p false now = min (countOf d p now + 1) 65535 := rfl
  generalize countOf d p now = c at *
  have hy := (setCell_blk (o := 12) (.int .i64 now) (setCell_blk (o := 11) (.int .i64 (min (c + 1) 65535)) hVx))
  have hrow0 : row? ((w2.setCell ⟨w.heap.size, 11, none⟩ (.int .i64 (min (c + 1) 65535))).setCell ⟨w.heap.size, 12, none⟩ (.int .i64 now)) w.heap.size 0 17 = some (entC r { d with fails := min (c + 1) 65535, lastFail := now }) := (row?_of_cells hy).trans (by kernel_rfl)
  have hcp : canPut ((w2.setCell ⟨w.heap.size, 11, none⟩ (.int .i64 (min (c + 1) 65535))).setCell ⟨w.heap.size, 12, none⟩ (.int .i64 now)) (w.heap.size + 1 + 1) 0 17 = true := by
    rw [canPut_setCell_other hneA, canPut_setCell_other hneA]
    exact (hpp (w.heap.size + 1 + 1) 0 17 (by simp)).trans hz
  clear hy
  obtain ⟨hc, hf, hr, hlt⟩ := box_facts hVx
  clear hr
  go_wp2_with fail
  have hrow := row?_putRow_whole (entC_size r { d with fails := min (c + 1) 65535, lastFail := now }) hcp
  exact bodyPost_ret (results_row (by rfl) Tryz.underlying31 rfl (by kernel_rfl) rfl hrow) rfl ⟨by unfold attempted; rw [hfo]; rfl, Go.WW.Below.putRow ((hB2.setCell (by simp) _).setCell (by simp) _) (by omega)⟩
theorem attempted28_c (r : ERaw) (d : Entry) (p : Policy) (s : Bool) (now : Int) (w : World) (hs : Small d p) :
    Calls Tryz.prog 20 #[.agg (entC r d), .agg (polC p), .bool s, .int .i64 now] w fun e w' => e = .returned (.agg (entC r (attempted d p s now))) ∧ Below w.heap.size w w' := by
  cases s
  · exact attempted28_no r d p now w hs
  · exact attempted28_yes r d p now w hs
end Go.Proofs.YtknppbjbnpddaaaGreatDoor
