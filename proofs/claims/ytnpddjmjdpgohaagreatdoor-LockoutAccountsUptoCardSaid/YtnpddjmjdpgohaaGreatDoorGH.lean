/- Part H of the proof about watchword's lockout: texts K1 K2 Maps K3 K4 K5 E1. -/
import Derived.Test.YtnpddjmjdpgohaaGreatDoorGG
import Derived.Test.YtnpddjmjdpgohaaGreatDoorGD
import Derived.Carry
import Derived.WideMake
import Derived.RangeFuncOwn

namespace Go.WW
def countOf (d : Entry) (p : Policy) (now : Int) : Int :=
  if 0 < p.fails ∧ p.fails ≤ d.fails then (if 0 < p.lock ∧ d.lastFail + p.lock ≤ now then 0 else d.fails)
  else if 0 < p.window ∧ d.lastFail + p.window < now then 0 else d.fails
def lockedAt (d : Entry) (p : Policy) (now : Int) : Bool := decide (0 < p.fails) && decide (p.fails ≤ countOf d p now)
def untilOf (d : Entry) (p : Policy) : Int := if p.lock = 0 then 0 else min (d.lastFail + p.lock) 1099511627776
structure Small (d : Entry) (p : Policy) : Prop where
  l0 : 0 ≤ d.lastFail
  l1 : d.lastFail ≤ 1099511627776
  f0 : 0 ≤ d.fails
  f1 : d.fails ≤ 65535
  w0 : 0 ≤ p.window
  w1 : p.window ≤ 1099511627776
  k0 : 0 ≤ p.lock
  k1 : p.lock ≤ 1099511627776
  m0 : 0 ≤ p.fails
end Go.WW
namespace Go.Proofs.YtnpddjmjdpgohaaGreatDoor
open Go.RowKit Go.WW
set_option maxHeartbeats 1000000 in
theorem sum_c (b cap : Nat) (x y : Int) (w : World) (h0 : w.cell? ⟨b, 0, none⟩ = some (.int .i64 x)) (h1 : w.cell? ⟨b, 1, none⟩ = some (.int .i64 y)) (hx : 0 ≤ x ∧ x ≤ 1099511627776) (hy : 0 ≤ y ∧ y ≤ 1099511627776) :
    Calls Tryz.prog 31 #[.slice (some ⟨b, 0, none⟩) 2 cap] w fun e w' => e = .returned (.int .i64 (x + y)) ∧ w = w' := by
  have hb : b < w.heap.size := World.block_lt_of_cell? w _ h0
  go_enter Tryz.func31, Tryz.ntmps31
  go_wp2
  refine wp_loop_rounds 3 ?_
  rw [rounds_succ]
  go_wp2
  rw [rounds_succ]
  go_wp2
  rw [rounds_succ]
  go_wp2
  go_ret
  exact ⟨rfl, rfl⟩
theorem reached_c (b cap : Nat) (n x y : Int) (w : World) (h0 : w.cell? ⟨b, 0, none⟩ = some (.int .i64 x)) (h1 : w.cell? ⟨b, 1, none⟩ = some (.int .i64 y)) (hx : 0 ≤ x ∧ x ≤ 1099511627776) (hy : 0 ≤ y ∧ y ≤ 1099511627776) :
    Calls Tryz.prog 55 #[.int .i64 n, .slice (some ⟨b, 0, none⟩) 2 cap] w fun e w' => e = .returned (.bool (decide (x + y ≤ n))) ∧ w = w' := by
  go_enter Tryz.func55, Tryz.ntmps55
  go_wp2_with (go_at_call 31; refine (sum_c _ _ _ _ _ h0 h1 hx hy).mono ?_; rintro e w' ⟨rfl, rfl⟩)
  all_goals go_ret
  all_goals exact ⟨rfl, rfl⟩
theorem passed_c (b cap : Nat) (n x y : Int) (w : World) (h0 : w.cell? ⟨b, 0, none⟩ = some (.int .i64 x)) (h1 : w.cell? ⟨b, 1, none⟩ = some (.int .i64 y)) (hx : 0 ≤ x ∧ x ≤ 1099511627776) (hy : 0 ≤ y ∧ y ≤ 1099511627776) :
    Calls Tryz.prog 57 #[.int .i64 n, .slice (some ⟨b, 0, none⟩) 2 cap] w fun e w' => e = .returned (.bool (decide (x + y < n))) ∧ w = w' := by
  go_enter Tryz.func57, Tryz.ntmps57
  go_wp2_with (go_at_call 31; refine (sum_c _ _ _ _ _ h0 h1 hx hy).mono ?_; rintro e w' ⟨rfl, rfl⟩)
  all_goals go_ret
  all_goals exact ⟨rfl, rfl⟩
set_option maxHeartbeats 1000000 in
theorem count28_c (r : ERaw) (d : Entry) (p : Policy) (now : Int) (w : World) (hs : Small d p) :
    Calls Tryz.prog 12 #[.agg (entC r d), .agg (polC p), .int .i64 now] w fun e w' => e = .returned (.int .i64 (countOf d p now)) ∧ Below w.heap.size w w' := by
  obtain ⟨l0, l1, f0, f1, w0, w1, k0, k1, m0⟩ := hs
  go_enter Tryz.func12, Tryz.ntmps12
  by_cases c1 : 0 < p.fails ∧ p.fails ≤ d.fails
  · by_cases c2 : 0 < p.lock ∧ d.lastFail + p.lock ≤ now
    · have HN := Lib.hid (show countOf d p now = 0 by rw [countOf, if_pos c1, if_pos c2])
      obtain ⟨a1, a2⟩ := c1
      obtain ⟨a3, a4⟩ := c2
      go_wp2
      all_goals go_ret
      all_goals exact ⟨by rw [HN.out]; rfl, ((Below.refl _ _).alloc (Nat.le_refl _) _).alloc (by simp) _⟩
    · have HN := Lib.hid (show countOf d p now = d.fails by rw [countOf, if_pos c1, if_neg c2])
      obtain ⟨a1, a2⟩ := c1
      by_cases a3 : 0 < p.lock
      · have a4 : ¬ d.lastFail + p.lock ≤ now := fun h => c2 ⟨a3, h⟩
        clear c2
        go_wp2
        all_goals go_ret
        all_goals exact ⟨by rw [HN.out]; rfl, ((Below.refl _ _).alloc (Nat.le_refl _) _).alloc (by simp) _⟩
      · clear c2
        go_wp2
        all_goals go_ret
        all_goals exact ⟨by rw [HN.out]; rfl, ((Below.refl _ _).alloc (Nat.le_refl _) _).alloc (by simp) _⟩
  · by_cases c2 : 0 < p.window ∧ d.lastFail + p.window < now
    · have HN := Lib.hid (show countOf d p now = 0 by rw [countOf, if_neg c1, if_pos c2])
      obtain ⟨a3, a4⟩ := c2
      by_cases a1 : 0 < p.fails
      · have a2 : ¬ p.fails ≤ d.fails := fun h => c1 ⟨a1, h⟩
        clear c1
        go_wp2
        all_goals go_ret
        all_goals exact ⟨by rw [HN.out]; rfl, ((Below.refl _ _).alloc (Nat.le_refl _) _).alloc (by simp) _⟩
      · clear c1
        go_wp2
        all_goals go_ret
        all_goals exact ⟨by rw [HN.out]; rfl, ((Below.refl _ _).alloc (Nat.le_refl _) _).alloc (by simp) _⟩
    · have HN := Lib.hid (show countOf d p now = d.fails by rw [countOf, if_neg c1, if_neg c2])
      by_cases a1 : 0 < p.fails
      · have a2 : ¬ p.fails ≤ d.fails := fun h => c1 ⟨a1, h⟩
        clear c1
        by_cases a3 : 0 < p.window
        · have a4 : ¬ d.lastFail + p.window < now := fun h => c2 ⟨a3, h⟩
          clear c2
          go_wp2
          all_goals go_ret
          all_goals exact ⟨by rw [HN.out]; rfl, ((Below.refl _ _).alloc (Nat.le_refl _) _).alloc (by simp) _⟩
        · clear c2
          go_wp2
          all_goals go_ret
          all_goals exact ⟨by rw [HN.out]; rfl, ((Below.refl _ _).alloc (Nat.le_refl _) _).alloc (by simp) _⟩
      · clear c1
        by_cases a3 : 0 < p.window
        · have a4 : ¬ d.lastFail + p.window < now := fun h => c2 ⟨a3, h⟩
          clear c2
          go_wp2
          all_goals go_ret
          all_goals exact ⟨by rw [HN.out]; rfl, ((Below.refl _ _).alloc (Nat.le_refl _) _).alloc (by simp) _⟩
        · clear c2
          go_wp2
          all_goals go_ret
          all_goals exact ⟨by rw [HN.out]; rfl, ((Below.refl _ _).alloc (Nat.le_refl _) _).alloc (by simp) _⟩
end Go.Proofs.YtnpddjmjdpgohaaGreatDoor

namespace Go.WW
def okAll (d : Entry) (p : Policy) (now : Int) : Bool := entryOk d && polOk p && isTime now
theorem okAll_no1 {d : Entry} {p : Policy} {now : Int} (h : entryOk d = false) : okAll d p now = false := by rw [okAll, h]; rfl
theorem okAll_no2 {d : Entry} {p : Policy} {now : Int} (h : polOk p = false) : okAll d p now = false := by rw [okAll, h]; simp
theorem okAll_end {d : Entry} {p : Policy} {now : Int} (h : entryOk d = true) (h' : polOk p = true) : okAll d p now = isTime now := by rw [okAll, h, h']; rfl
end Go.WW
namespace Go.Proofs.YtnpddjmjdpgohaaGreatDoor
open Go.RowKit Go.WW
set_option maxHeartbeats 1000000 in
theorem isLocked28_c (r : ERaw) (d : Entry) (p : Policy) (now : Int) (w : World) (hs : Small d p) :
    Calls Tryz.prog 13 #[.agg (entC r d), .agg (polC p), .int .i64 now] w fun e w' => e = .returned (.bool (lockedAt d p now)) ∧ Below w.heap.size w w' := by
  go_enter Tryz.func13, Tryz.ntmps13
  have hB : Below w.heap.size w ((w.alloc (.cells (entC r d) 31)).alloc (.cells (polC p) 33)) := ((Below.refl _ _).alloc (Nat.le_refl _) _).alloc (by simp) _
  cases h0 : decide (0 < p.fails)
  · have HN := Lib.hid (show lockedAt d p now = false by rw [lockedAt, h0]; rfl)
    go_wp2_with fail
    refine wp_region_later (Below.refl _ ((w.alloc (.cells (entC r d) 31)).alloc (.cells (polC p) 33))) (by kernel_rfl) (by kernel_rfl) ?_
    repeat (go_big_quiet_step (fail))
    refine wpQuiet_nil ?_
    intro w2 hb2
    go_wp2_with fail
    go_ret
    exact ⟨by rw [HN.out]; rfl, hB.trans (hb2.mono (by simp; omega))⟩
  · have HN := Lib.hid (show lockedAt d p now = decide (p.fails ≤ countOf d p now) by rw [lockedAt, h0]; rfl)
    go_wp2_with fail
    refine wp_region_later (Below.refl _ ((w.alloc (.cells (entC r d) 31)).alloc (.cells (polC p) 33))) (by kernel_rfl) (by kernel_rfl) ?_
    repeat (go_big_quiet_step ((go_at_call 12; exact Calls.later_of (count28_c _ _ _ _ _ hs))))
    refine wpQuiet_nil ?_
    intro w2 hb2
    go_wp2_with fail
    go_ret
    exact ⟨by rw [HN.out]; rfl, hB.trans (hb2.mono (by simp; omega))⟩
end Go.Proofs.YtnpddjmjdpgohaaGreatDoor

namespace Go.WW
open Go.RowKit
theorem run_mapAdd {P : Program} {w : World} {mty kt et : TypeId} {d : TypeDesc} {r clock : Nat} {es : Array MapEntry} {k : Value} (v : Value) (hm : P.underlying mty = some (.map kt et)) (hd : P.underlying kt = some d) (hk : MapKept.IsKey d k)
    (hf : Instr.findNow d k es.toList 0 = some none) (hb : w.heap[r]? = some (.map es clock)) :
    (Instr.mapUpdate mty (.map (some r)) k v).run P w = .ok () (w.putObj r (.map (es.push { key := k, val := v, born := clock }) (clock + 1))) := by
  have hc : (Instr.checkKey false 10000 kt k).run P w = .ok () w := MapKept.run_checkKey hd hk false 9999
  simp [Instr.mapUpdate, run_underlying hm, MapKept.run_getObj_map hb, hc, MapKept.run_findKey hd hf, MapKept.run_setObj_map _ hb, Result.andThen, World.putObj]
theorem run_mapLook {P : Program} {w : World} {mty kt et : TypeId} {d : TypeDesc} {r clock i : Nat} {es : Array MapEntry} {k v : Value} (hm : P.underlying mty = some (.map kt et)) (hd : P.underlying kt = some d) (hk : MapKept.IsKey d k)
    (hf : Instr.findNow d k es.toList 0 = some (some (i, v))) (hb : w.heap[r]? = some (.map es clock)) :
    (Instr.lookup mty (.map (some r)) k false).run P w = .ok v w := by
  have hc : (Instr.checkKey es.isEmpty 10000 kt k).run P w = .ok () w := MapKept.run_checkKey hd hk _ 9999
  simp [Instr.lookup, run_underlying hm, MapKept.run_getObj_map hb, hc, MapKept.run_findKey hd hf, Result.andThen]
end Go.WW

namespace Go.Proofs.YtnpddjmjdpgohaaGreatDoor
open Go.RowKit Go.WW
set_option maxRecDepth 100000 in
set_option maxHeartbeats 1000000 in
theorem count1_c (B : Nat) (now last lock : Int) (w : World) (h1 : w.cell? ⟨B, 26, none⟩ = some (.int .i64 lock)) (h2 : w.cell? ⟨B, 12, none⟩ = some (.int .i64 last)) (h3 : w.cell? ⟨B + 1, 0, none⟩ = some (.int .i64 now))
    (hx : 0 ≤ last ∧ last ≤ 1099511627776) (hy : 0 ≤ lock ∧ lock ≤ 1099511627776) :
    Calls Tryz.prog 54 #[.pointer (some ⟨B, 0, none⟩), .pointer (some ⟨B + 1, 0, none⟩)] w fun e w' => e = .returned (.bool (decide (0 < lock) && decide (last + lock ≤ now))) ∧ Below w.heap.size w w' := by
  go_enter Tryz.func54, Tryz.ntmps54
  by_cases hz : lock = 0
  · have hz' : (lock != 0) = false := by simp [hz]
    have HN := Lib.hid (show (decide (0 < lock) && decide (last + lock ≤ now)) = false by rw [decide_eq_false (by omega)]; rfl)
    clear hz
    go_wp2_with fail
    all_goals go_ret
    all_goals exact ⟨by rw [HN.out]; rfl, Below.refl _ _⟩
  · have hz' : (lock != 0) = true := by simp [hz]
    have HN := Lib.hid (show (decide (0 < lock) && decide (last + lock ≤ now)) = decide (last + lock ≤ now) by rw [decide_eq_true (p := 0 < lock) (by omega)]; rfl)
    clear hz
    go_wp2_with (go_at_call 55; refine (reached_c _ _ _ last lock _ (by simp [go_sem]) (by simp [go_sem]) hx hy).mono ?_; rintro e w' ⟨rfl, rfl⟩)
    all_goals go_ret
    all_goals exact ⟨by rw [HN.out]; rfl, (Below.refl _ _).alloc (Nat.le_refl _) _⟩
set_option maxRecDepth 100000 in
set_option maxHeartbeats 1000000 in
theorem count2_c (B : Nat) (now last lock : Int) (w : World) (h1 : w.cell? ⟨B, 25, none⟩ = some (.int .i64 lock)) (h2 : w.cell? ⟨B, 12, none⟩ = some (.int .i64 last)) (h3 : w.cell? ⟨B + 1, 0, none⟩ = some (.int .i64 now))
    (hx : 0 ≤ last ∧ last ≤ 1099511627776) (hy : 0 ≤ lock ∧ lock ≤ 1099511627776) :
    Calls Tryz.prog 56 #[.pointer (some ⟨B, 0, none⟩), .pointer (some ⟨B + 1, 0, none⟩)] w fun e w' => e = .returned (.bool (decide (0 < lock) && decide (last + lock < now))) ∧ Below w.heap.size w w' := by
  go_enter Tryz.func56, Tryz.ntmps56
  by_cases hz : lock = 0
  · have hz' : (lock != 0) = false := by simp [hz]
    have HN := Lib.hid (show (decide (0 < lock) && decide (last + lock < now)) = false by rw [decide_eq_false (by omega)]; rfl)
    clear hz
    go_wp2_with fail
    all_goals go_ret
    all_goals exact ⟨by rw [HN.out]; rfl, Below.refl _ _⟩
  · have hz' : (lock != 0) = true := by simp [hz]
    have HN := Lib.hid (show (decide (0 < lock) && decide (last + lock < now)) = decide (last + lock < now) by rw [decide_eq_true (p := 0 < lock) (by omega)]; rfl)
    clear hz
    go_wp2_with (go_at_call 57; refine (passed_c _ _ _ last lock _ (by simp [go_sem]) (by simp [go_sem]) hx hy).mono ?_; rintro e w' ⟨rfl, rfl⟩)
    all_goals go_ret
    all_goals exact ⟨by rw [HN.out]; rfl, (Below.refl _ _).alloc (Nat.le_refl _) _⟩
end Go.Proofs.YtnpddjmjdpgohaaGreatDoor

namespace Go.WW
theorem countOf_win {d : Entry} {p : Policy} (now : Int) (h : ¬ (0 < p.fails ∧ p.fails ≤ d.fails)) : countOf d p now = if (decide (0 < p.window) && decide (d.lastFail + p.window < now)) = true then 0 else d.fails := by
  rw [countOf, if_neg h]; simp
theorem countOf_lock {d : Entry} {p : Policy} (now : Int) (h : 0 < p.fails ∧ p.fails ≤ d.fails) : countOf d p now = if (decide (0 < p.lock) && decide (d.lastFail + p.lock ≤ now)) = true then 0 else d.fails := by
  rw [countOf, if_pos h]; simp
end Go.WW
namespace Go.Proofs.YtnpddjmjdpgohaaGreatDoor
open Go.RowKit Go.WW
set_option maxRecDepth 100000 in
set_option maxHeartbeats 1000000 in
theorem acount_c (r : ERaw) (d : Entry) (p : Policy) (now : Int) (w : World) (hs : Small d p) :
    Calls Tryz.prog 28 #[.agg (accC r d p), .int .i64 now] w fun e w' => e = .returned (.int .i64 (countOf d p now)) ∧ Below w.heap.size w w' := by
  obtain ⟨l0, l1, f0, f1, w0, w1, k0, k1, m0⟩ := hs
  obtain ⟨V1, hV1⟩ : ∃ v, v = Value.func (.func 54) #[] #[.pointer (some ⟨w.heap.size, 0, none⟩), .pointer (some ⟨w.heap.size + 1, 0, none⟩)] := ⟨_, rfl⟩
  obtain ⟨V2, hV2⟩ : ∃ v, v = Value.func (.func 56) #[] #[.pointer (some ⟨w.heap.size, 0, none⟩), .pointer (some ⟨w.heap.size + 1, 0, none⟩)] := ⟨_, rfl⟩
  have hm1 : (((w.alloc (.cells (accC r d p) 72)).alloc (.cells #[.int .i64 now] 3)).alloc (.map #[] 0)).heap[w.heap.size + 2]? = some (.map #[] 0) := by
    have := World.alloc_heap_new ((w.alloc (.cells (accC r d p) 72)).alloc (.cells #[.int .i64 now] 3)) (.map #[] 0)
    simpa using this
  have hi1 := run_mapAdd (P := Tryz.prog) V1 Tryz.underlying106 Tryz.underlying4 (k := .bool true) trivial (by rfl) hm1
  have hm2 : ((((w.alloc (.cells (accC r d p) 72)).alloc (.cells #[.int .i64 now] 3)).alloc (.map #[] 0)).putObj (w.heap.size + 2) (.map #[{ key := .bool true, val := V1, born := 0 }] 1)).heap[w.heap.size + 2]? = some (.map #[{ key := .bool true, val := V1, born := 0 }] 1) := World.putObj_heap_same (by simp)
  have hi2 := run_mapAdd (P := Tryz.prog) V2 Tryz.underlying106 Tryz.underlying4 (k := .bool false) trivial (by rfl) hm2
  obtain ⟨W3, hW3⟩ : ∃ W, ((((w.alloc (.cells (accC r d p) 72)).alloc (.cells #[.int .i64 now] 3)).alloc (.map #[] 0)).putObj (w.heap.size + 2) (.map #[{ key := .bool true, val := V1, born := 0 }] 1)).putObj (w.heap.size + 2) (.map #[{ key := .bool true, val := V1, born := 0 }, { key := .bool false, val := V2, born := 1 }] 2) = W := ⟨_, rfl⟩
  have hm3 : W3.heap[w.heap.size + 2]? = some (.map #[{ key := .bool true, val := V1, born := 0 }, { key := .bool false, val := V2, born := 1 }] 2) := by rw [← hW3]; exact World.putObj_heap_same (by simp)
  simp only [List.push_toArray, List.nil_append, List.cons_append, Nat.zero_add, Nat.reduceAdd] at hi1 hi2
  rw [hW3] at hi2
  have hB3 : Below (w.heap.size + 2) ((w.alloc (.cells (accC r d p) 72)).alloc (.cells #[.int .i64 now] 3)) W3 := by
    rw [← hW3]
    exact ((Below.refl _ _).alloc (by simp) _).grown (grownBy_putObj' _ _ _) (by simp) (fun k e => by cases e; omega) |>.grown (grownBy_putObj' _ _ _) (by simp) (fun k e => by cases e; omega)
  have hsz3 : w.heap.size + 2 < W3.heap.size := (Array.getElem?_eq_some_iff.1 hm3).1
  have hsz4 : w.heap.size < W3.heap.size := by omega
  have g1 : W3.cell? ⟨w.heap.size, 25, none⟩ = some (.int .i64 p.window) := (hB3.cell (p := ⟨w.heap.size, 25, none⟩) (by simp)).trans (by simp [go_sem])
  have g2 : W3.cell? ⟨w.heap.size, 26, none⟩ = some (.int .i64 p.lock) := (hB3.cell (p := ⟨w.heap.size, 26, none⟩) (by simp)).trans (by simp [go_sem])
  have g3 : W3.cell? ⟨w.heap.size, 12, none⟩ = some (.int .i64 d.lastFail) := (hB3.cell (p := ⟨w.heap.size, 12, none⟩) (by simp)).trans (by simp [go_sem])
  have g4 : W3.cell? ⟨w.heap.size, 11, none⟩ = some (.int .i64 d.fails) := (hB3.cell (p := ⟨w.heap.size, 11, none⟩) (by simp)).trans (by simp [go_sem])
  have g5 : W3.cell? ⟨w.heap.size + 1, 0, none⟩ = some (.int .i64 now) := (hB3.cell (p := ⟨w.heap.size + 1, 0, none⟩) (by simp)).trans (by simp [go_sem])
  have hBw : Below w.heap.size w W3 := (((Below.refl _ w).alloc (Nat.le_refl _) _).alloc (by simp) _).trans (hB3.mono (by omega))
  have hmm := @run_makeMap Tryz.prog
  go_enter Tryz.func28, Tryz.ntmps28
  subst hV1 hV2
  by_cases c1 : p.fails = 0
  · have c1' : (p.fails != 0) = false := by simp [c1]
    obtain ⟨c, hc⟩ : ∃ c, (decide (0 < p.window) && decide (d.lastFail + p.window < now)) = c := ⟨_, rfl⟩
    have HN := Lib.hid (hc ▸ countOf_win (d := d) (p := p) now (by omega))
    clear c1
    have hlk : ∀ x : Later W3, (Instr.lookup 106 (.map (some (w.heap.size + 2))) (.bool false) false).run Tryz.prog x.w = .ok (Value.func (.func 56) #[] #[.pointer (some ⟨w.heap.size, 0, none⟩), .pointer (some ⟨w.heap.size + 1, 0, none⟩)]) x.w := fun x =>
      run_mapLook Tryz.underlying106 Tryz.underlying4 trivial (by rfl) ((x.b.block _ (Array.getElem?_eq_some_iff.1 hm3).1).trans hm3)
    go_wp2_with fail
    refine wp_region_later (Below.refl _ W3) (by kernel_rfl) (by kernel_rfl) ?_
    repeat (go_big_quiet_step (first | (go_at_call 56; rename_i xw; exact Calls.later_of (hc ▸ count2_c _ now d.lastFail p.window _ ((xw.b.cell (p := ⟨w.heap.size, 25, none⟩) (by simp; omega)).trans g1) ((xw.b.cell (p := ⟨w.heap.size, 12, none⟩) (by simp; omega)).trans g3) ((xw.b.cell (p := ⟨w.heap.size + 1, 0, none⟩) (by simp; omega)).trans g5) ⟨l0, l1⟩ ⟨w0, w1⟩)) | (go_at_call 30; exact Calls.later_same (chooseInt_c _ _ _ _))))
    refine wpQuiet_nil ?_
    intro w2 hb2
    cases c
    all_goals go_wp2_with fail
    all_goals go_ret
    all_goals exact ⟨by rw [HN.out]; rfl, hBw.trans (hb2.mono (by omega))⟩
  have c1' : (p.fails != 0) = true := by simp [c1]
  by_cases c2 : p.fails ≤ d.fails
  · obtain ⟨c, hc⟩ : ∃ c, (decide (0 < p.lock) && decide (d.lastFail + p.lock ≤ now)) = c := ⟨_, rfl⟩
    have HN := Lib.hid (hc ▸ countOf_lock (d := d) (p := p) now ⟨by omega, c2⟩)
    have c2' : decide (p.fails ≤ d.fails) = true := by simp [c2]
    clear c1
    have hlk : ∀ x : Later W3, (Instr.lookup 106 (.map (some (w.heap.size + 2))) (.bool true) false).run Tryz.prog x.w = .ok (Value.func (.func 54) #[] #[.pointer (some ⟨w.heap.size, 0, none⟩), .pointer (some ⟨w.heap.size + 1, 0, none⟩)]) x.w := fun x =>
      run_mapLook Tryz.underlying106 Tryz.underlying4 trivial (by rfl) ((x.b.block _ (Array.getElem?_eq_some_iff.1 hm3).1).trans hm3)
    go_wp2_with fail
    refine wp_region_later (Below.refl _ W3) (by kernel_rfl) (by kernel_rfl) ?_
    repeat (go_big_quiet_step (first | (go_at_call 54; rename_i xw; exact Calls.later_of (hc ▸ count1_c _ now d.lastFail p.lock _ ((xw.b.cell (p := ⟨w.heap.size, 26, none⟩) (by simp; omega)).trans g2) ((xw.b.cell (p := ⟨w.heap.size, 12, none⟩) (by simp; omega)).trans g3) ((xw.b.cell (p := ⟨w.heap.size + 1, 0, none⟩) (by simp; omega)).trans g5) ⟨l0, l1⟩ ⟨k0, k1⟩)) | (go_at_call 30; exact Calls.later_same (chooseInt_c _ _ _ _))))
    refine wpQuiet_nil ?_
    intro w2 hb2
    cases c
    all_goals go_wp2_with fail
    all_goals go_ret
    all_goals exact ⟨by rw [HN.out]; rfl, hBw.trans (hb2.mono (by omega))⟩
  · obtain ⟨c, hc⟩ : ∃ c, (decide (0 < p.window) && decide (d.lastFail + p.window < now)) = c := ⟨_, rfl⟩
    have HN := Lib.hid (hc ▸ countOf_win (d := d) (p := p) now (fun h => c2 h.2))
    have c2' : decide (p.fails ≤ d.fails) = false := by simp [c2]
    clear c1
    have hlk : ∀ x : Later W3, (Instr.lookup 106 (.map (some (w.heap.size + 2))) (.bool false) false).run Tryz.prog x.w = .ok (Value.func (.func 56) #[] #[.pointer (some ⟨w.heap.size, 0, none⟩), .pointer (some ⟨w.heap.size + 1, 0, none⟩)]) x.w := fun x =>
      run_mapLook Tryz.underlying106 Tryz.underlying4 trivial (by rfl) ((x.b.block _ (Array.getElem?_eq_some_iff.1 hm3).1).trans hm3)
    go_wp2_with fail
    refine wp_region_later (Below.refl _ W3) (by kernel_rfl) (by kernel_rfl) ?_
    repeat (go_big_quiet_step (first | (go_at_call 56; rename_i xw; exact Calls.later_of (hc ▸ count2_c _ now d.lastFail p.window _ ((xw.b.cell (p := ⟨w.heap.size, 25, none⟩) (by simp; omega)).trans g1) ((xw.b.cell (p := ⟨w.heap.size, 12, none⟩) (by simp; omega)).trans g3) ((xw.b.cell (p := ⟨w.heap.size + 1, 0, none⟩) (by simp; omega)).trans g5) ⟨l0, l1⟩ ⟨w0, w1⟩)) | (go_at_call 30; exact Calls.later_same (chooseInt_c _ _ _ _))))
    refine wpQuiet_nil ?_
    intro w2 hb2
    cases c
    all_goals go_wp2_with fail
    all_goals go_ret
    all_goals exact ⟨by rw [HN.out]; rfl, hBw.trans (hb2.mono (by omega))⟩
end Go.Proofs.YtnpddjmjdpgohaaGreatDoor

namespace Go.Proofs.YtnpddjmjdpgohaaGreatDoor
open Go.RowKit Go.WW
set_option maxHeartbeats 1000000 in
theorem alocked_c (r : ERaw) (d : Entry) (p : Policy) (now : Int) (w : World) (hs : Small d p) :
    Calls Tryz.prog 29 #[.agg (accC r d p), .int .i64 now] w fun e w' => e = .returned (.bool (lockedAt d p now)) ∧ Below w.heap.size w w' := by
  have m0 := hs.m0
  go_enter Tryz.func29, Tryz.ntmps29
  have hB : Below w.heap.size w (w.alloc (.cells (accC r d p) 72)) := (Below.refl _ _).alloc (Nat.le_refl _) _
  by_cases h0 : p.fails = 0
  · have h0' : (p.fails != 0) = false := by simp [h0]
    have HN := Lib.hid (show lockedAt d p now = false by rw [lockedAt, decide_eq_false (by omega)]; rfl)
    clear h0 m0
    go_wp2_with fail
    refine wp_region_later (Below.refl _ (w.alloc (.cells (accC r d p) 72))) (by kernel_rfl) (by kernel_rfl) ?_
    repeat (go_big_quiet_step (fail))
    refine wpQuiet_nil ?_
    intro w2 hb2
    go_wp2_with fail
    go_ret
    exact ⟨by rw [HN.out]; rfl, hB.trans (hb2.mono (by simp))⟩
  · have h0' : (p.fails != 0) = true := by simp [h0]
    have HN := Lib.hid (show lockedAt d p now = decide (p.fails ≤ countOf d p now) by rw [lockedAt, decide_eq_true (p := 0 < p.fails) (by omega)]; rfl)
    clear h0 m0
    go_wp2_with fail
    refine wp_region_later (Below.refl _ (w.alloc (.cells (accC r d p) 72))) (by kernel_rfl) (by kernel_rfl) ?_
    repeat (go_big_quiet_step ((go_at_call 28; exact Calls.later_of (acount_c _ _ _ _ _ hs))))
    refine wpQuiet_nil ?_
    intro w2 hb2
    go_wp2_with fail
    go_ret
    exact ⟨by rw [HN.out]; rfl, hB.trans (hb2.mono (by simp))⟩
end Go.Proofs.YtnpddjmjdpgohaaGreatDoor

namespace Go.Proofs.YtnpddjmjdpgohaaGreatDoor
open Go.RowKit Go.WW
theorem within1_c (v most : Int) (B : Nat) (w : World) (h : w.cell? ⟨B, 0, none⟩ = some (.int .i64 most)) : Calls Tryz.prog 87 #[.int .i64 v, .pointer (some ⟨B, 0, none⟩)] w fun e w' => e = .returned (.bool (btw v 0 most)) ∧ w = w' := by
  go_enter Tryz.func87, Tryz.ntmps87
  go_wp2_with (go_at_call 88; refine (between_c _ _ _ _).mono ?_; rintro e w' ⟨rfl, rfl⟩)
  go_ret
  exact ⟨rfl, rfl⟩
set_option maxHeartbeats 1000000 in
theorem everyInt_c (b o cap B : Nat) (most : Int) (l : List Int) (w : World) (hl : IntsAt w (some ⟨b, o, none⟩) l) (hB : w.cell? ⟨B, 0, none⟩ = some (.int .i64 most)) :
    Calls Tryz.prog 86 #[.slice (some ⟨b, o, none⟩) l.length cap, .int .i64 l.length, .func (.func 87) #[] #[.pointer (some ⟨B, 0, none⟩)]] w fun e w' => e = .returned (.bool (l.all (fun v => btw v 0 most))) ∧ w = w' := by
  have hn' : l.length ≤ 4294967000 := hl.1
  go_enter Tryz.func86, Tryz.ntmps86
  go_wp2_with fail
  go_loop [15] (fun i => ∃ k : Nat, k ≤ l.length ∧ i = .int .i64 k ∧ Hid ((l.take k).all (fun v => btw v 0 most) = true)) (fun i => l.length - (intOf i).toNat)
  case atStart => exact ⟨0, Nat.zero_le _, rfl, by simp [Hid]⟩
  case round =>
    obtain ⟨k, hk, rfl, hall⟩ := hrel
    by_cases hlt : k < l.length
    · have hc := hl.at k hlt
      have hb : b < w.heap.size := World.block_lt_of_cell? w _ hc
      cases hv : btw l[k] 0 most
      · have HN := Lib.hid (lall_no (p := fun v => btw v 0 most) l k hlt hv)
        go_wp2_with (go_at_call 87; refine (within1_c _ _ _ _ hB).mono ?_; rintro e w' ⟨rfl, rfl⟩; rw [hv])
        go_ret
        exact ⟨by rw [HN.out]; rfl, rfl⟩
      · have HN := Lib.hid (lall_step (p := fun v => btw v 0 most) l k hlt hall.out hv)
        go_wp2_with (go_at_call 87; refine (within1_c _ _ _ _ hB).mono ?_; rintro e w' ⟨rfl, rfl⟩; rw [hv])
        go_round
        case rel => exact ⟨k + 1, by omega, by go_num, HN.out⟩
        case measure => simp [intOf]; omega
    · have HN := Lib.hid (lall_end (p := fun v => btw v 0 most) l k (by omega) hall.out)
      go_wp2_with fail
      go_ret
      exact ⟨by rw [HN.out]; rfl, rfl⟩
theorem within_c (b o cap : Nat) (most : Int) (l : List Int) (w : World) (hl : IntsAt w (some ⟨b, o, none⟩) l) :
    Calls Tryz.prog 85 #[.int .i64 most, .slice (some ⟨b, o, none⟩) l.length cap] w fun e w' => e = .returned (.bool (l.all (fun v => btw v 0 most))) ∧ Below w.heap.size w w' := by
  have hB : Below w.heap.size w (w.alloc (.cells #[.int .i64 most] 3)) := (Below.refl _ _).alloc (Nat.le_refl _) _
  have hl' := hl.later hB
  go_enter Tryz.func85, Tryz.ntmps85
  go_wp2_with (go_at_call 86; refine (everyInt_c _ _ _ _ most _ _ hl' (by simp [go_sem])).mono ?_; rintro e w' ⟨rfl, rfl⟩)
  go_ret
  exact ⟨rfl, hB⟩
end Go.Proofs.YtnpddjmjdpgohaaGreatDoor
