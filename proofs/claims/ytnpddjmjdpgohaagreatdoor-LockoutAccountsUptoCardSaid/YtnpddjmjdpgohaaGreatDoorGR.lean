/- Part R of the proof about watchword's lockout: texts M1 M2 M3. -/
import Derived.Test.YtnpddjmjdpgohaaGreatDoorGQ

namespace Go.WW
open Go.RowKit
def entK (fails last : Int) : Entry := { zeroD with name := ⟨[⟨#[97]⟩], ⟨#[82]⟩⟩, fails := fails, lastFail := last }
def pol3 (fails : Int) : Policy := ⟨⟨#[112]⟩, 1, 1, 0, 0, 0, 0, fails, 100, 50⟩
theorem results_rows {P : Program} {fn : Func} {a a2 : Tmp} {T T2 : TypeId} {d d2 : TypeDesc} {n n2 : Nat} (hf : fn.results = #[.cell a T, .cell a2 T2]) (hu : P.underlying T = some d) (hd : d.isRow = true) (hi : (P.info? T).map (·.size) = some n)
    (hu2 : P.underlying T2 = some d2) (hd2 : d2.isRow = true) (hi2 : (P.info? T2).map (·.size) = some n2) {tmps : Array Value} {w : World} {b o b2 o2 : Nat} {cs cs2 : Array Value}
    (ha : tmps.getD a undef = .pointer (some ⟨b, o, none⟩)) (h : row? w b o n = some cs) (ha2 : tmps.getD a2 undef = .pointer (some ⟨b2, o2, none⟩)) (h2 : row? w b2 o2 n2 = some cs2) :
    (results fn tmps).run P w = .ok (.tuple #[.agg cs, .agg cs2]) w := by
  have hl := run_loadVar_row hu hd hi h
  have hl2 := run_loadVar_row hu2 hd2 hi2 h2
  have ha' : (asAddr (tmps.getD a undef)).run P w = .ok ⟨b, o, none⟩ w := by rw [ha]; rfl
  have ha2' : (asAddr (tmps.getD a2 undef)).run P w = .ok ⟨b2, o2, none⟩ w := by rw [ha2]; rfl
  rw [Array.getD_eq_getD_getElem?] at ha' ha2'
  unfold results
  rw [hf]
  simp [Sem.run_bind, ha', hl, ha2', hl2, Result.andThen]
def GivenOut (w : World) (e : Ending) (w' : World) : Prop := ∃ r, e = .returned (.tuple #[.agg (entC r (entK 0 0)), .agg (polC (pol3 3))]) ∧ Below w.heap.size w w' ∧ Dep w' (fresh w.heap.size w') (fun x => EntAt x r (entK 0 0))
theorem entK_at (w : World) (g cap : Nat) (f l : Int) (h : w.cell? ⟨g, 0, none⟩ = some (.string ⟨#[97]⟩)) : EntAt w { zeroR with parts := ⟨some ⟨g, 0, none⟩, cap⟩ } (entK f l) := by
  have z := zeroE_at w
  refine ⟨⟨⟨by simp [entK, lim], fun i hi => ?_⟩, by show 1 ≤ lim; unfold lim; omega⟩, z.aliases, z.keys, z.targets, z.delegates, z.history, z.policy, z.attrs⟩
  have hi' : i < 1 := hi
  obtain rfl : i = 0 := by omega
  exact ⟨g, 0, _, rfl, h, ⟨#[97]⟩, rfl, rfl, by show 1 ≤ lim; unfold lim; omega⟩
end Go.WW
namespace Go.Proofs.YtnpddjmjdpgohaaGreatDoor
open Go.RowKit Go.WW
set_option maxRecDepth 100000 in
theorem llocked_c (r : ERaw) (d : Entry) (p : Policy) (now : Int) (want : Bool) (w : World) (he : EntAt w r d) (hs : p.name.size ≤ lim) (h1 : okAll d p now = true) :
    Calls Tryz.prog 25 #[.agg (entC r d), .agg (polC p), .int .i64 now, .bool want] w fun e w' => e = .returned (.bool (lockedAt d p now == want)) ∧ Below w.heap.size w w' := by
  have hB : Below w.heap.size w ((w.alloc (.cells (entC r d) 31)).alloc (.cells (polC p) 33)) := ((Below.refl _ _).alloc (Nat.le_refl _) _).alloc (by simp) _
  have hL := lLocked_c r d p now _ (he.later hB) hs
  rw [h1] at hL
  have HL := Lib.hid hL
  clear hL
  go_enter Tryz.func25, Tryz.ntmps25
  go_wp2_with fail
  refine (HL.out).mono ?_
  rintro e w2 ⟨rfl, hb2⟩
  have hB2 := below_step hB hb2
  cases hk : lockedAt d p now <;> cases want
  all_goals go_wp2_with (go_at_call 11; refine (num_c _ _).mono ?_; rintro e w' ⟨rfl, rfl⟩)
  all_goals go_ret
  all_goals exact ⟨by first | rfl | (rw [hk]; rfl), hB2⟩
theorem execOp_buildE1 (ρ : Operand → Value) (dst : Option Tmp) (x : Operand) (ty : TypeId) (pos : String) (after : Array Edge) (guard : Option (Nat × Bool)) : execOp ρ { dst, op := .build 31 #[(0, x)], type := ty, pos, after, guard } = structBuild 31 #[(0, ρ x)] := by simp [execOp, structBuild]
theorem buildE1 (w : World) (g cap : Nat) : (structBuild 31 #[(0, .agg #[.slice (some ⟨g, 0, none⟩) 1 cap, .string ⟨#[82]⟩])]).run Tryz.prog w = .ok (.value (.agg (entC { zeroR with parts := ⟨some ⟨g, 0, none⟩, cap⟩ } (entK 0 0)))) w := by kernel_rfl
theorem execOp_buildP (ρ : Operand → Value) (dst : Option Tmp) (ty : TypeId) (pos : String) (after : Array Edge) (guard : Option (Nat × Bool)) :
    execOp ρ { dst, op := .build 33 #[(0, .const (.string ⟨#[112]⟩)), (1, .const (.int .i64 1)), (2, .const (.int .i64 1)), (7, .const (.int .i64 3)), (8, .const (.int .i64 100)), (9, .const (.int .i64 50))], type := ty, pos, after, guard } = structBuild 33 #[(0, ρ (.const (.string ⟨#[112]⟩))), (1, ρ (.const (.int .i64 1))), (2, ρ (.const (.int .i64 1))), (7, ρ (.const (.int .i64 3))), (8, ρ (.const (.int .i64 100))), (9, ρ (.const (.int .i64 50)))] := by simp [execOp, structBuild]
theorem buildP (w : World) : (structBuild 33 #[(0, .string ⟨#[112]⟩), (1, .int .i64 1), (2, .int .i64 1), (7, .int .i64 3), (8, .int .i64 100), (9, .int .i64 50)]).run Tryz.prog w = .ok (.value (.agg (polC (pol3 3)))) w := by kernel_rfl
attribute [go_sem] buildE1 buildP
attribute [go_sem ↓] execOp_buildE1 execOp_buildP
set_option maxRecDepth 100000 in
set_option maxHeartbeats 1000000 in
theorem given_c (w : World) : Calls Tryz.prog 22 #[] w (GivenOut w) := by
  go_enter Tryz.func22, Tryz.ntmps22
  go_wp2_with fail
  refine bodyPost_ret (results_rows (n := 17) (n2 := 10) (cs := entC { zeroR with parts := ⟨some ⟨w.heap.size + 1 + 1, 0, none⟩, 1⟩ } (entK 0 0)) (cs2 := polC (pol3 3)) (by rfl) Tryz.underlying31 rfl (by kernel_rfl) Tryz.underlying33 rfl (by kernel_rfl) rfl (by rw [row?_putRow_other (by omega)]; exact row?_putRow_whole (entC_size _ _) (by rw [canPut_alloc_past (by simp; omega), canPut_alloc_past (by simp), canPut_alloc_new rfl (by simp)])) rfl (row?_putRow_whole (polC_size _) (by rw [canPut_putRow_other (by omega), canPut_alloc_past (by simp), canPut_alloc_new (by simp) (by simp)]))) rfl
    ⟨{ zeroR with parts := ⟨some ⟨w.heap.size + 1 + 1, 0, none⟩, 1⟩ }, rfl, Go.WW.Below.putRow (Go.WW.Below.putRow ((((Below.refl _ w).alloc (Nat.le_refl _) _).alloc (by simp) _).alloc (by simp; omega) _) (by omega)) (by omega), fun x hx => entK_at x _ _ _ _ ((World.cell?_of_block (a := ⟨w.heap.size + 1 + 1, 0, none⟩) (hx _ ⟨by simp; omega, by rw [putRow_size, putRow_size]; simp⟩)).trans (by rw [cell?_putRow_other (by omega), cell?_putRow_other (by omega)]; simp [go_sem]))⟩
end Go.Proofs.YtnpddjmjdpgohaaGreatDoor

namespace Go.WW
open Go.RowKit
theorem two_boxes {w : World} {Z Z' cs cs' : Array Value} {T T' : TypeId} (h : Z.size = cs.size) (h' : Z'.size = cs'.size) :
    (putRow (putRow ((w.alloc (.cells Z T)).alloc (.cells Z' T')) w.heap.size 0 cs) (w.heap.size + 1) 0 cs').heap[w.heap.size]? = some (.cells cs T) ∧
    (putRow (putRow ((w.alloc (.cells Z T)).alloc (.cells Z' T')) w.heap.size 0 cs) (w.heap.size + 1) 0 cs').heap[w.heap.size + 1]? = some (.cells cs' T') ∧
    Below w.heap.size w (putRow (putRow ((w.alloc (.cells Z T)).alloc (.cells Z' T')) w.heap.size 0 cs) (w.heap.size + 1) 0 cs') ∧ (putRow (putRow ((w.alloc (.cells Z T)).alloc (.cells Z' T')) w.heap.size 0 cs) (w.heap.size + 1) 0 cs').heap.size = w.heap.size + 1 + 1 := by
  have h1 : ((w.alloc (.cells Z T)).alloc (.cells Z' T')).heap[w.heap.size]? = some (.cells Z T) := second_blk w _ _
  have h2 : ((w.alloc (.cells Z T)).alloc (.cells Z' T')).heap[w.heap.size + 1]? = some (.cells Z' T') := by
    have := World.alloc_heap_new (w.alloc (.cells Z T)) (.cells Z' T')
    simpa using this
  refine ⟨?_, ?_, ?_, by rw [putRow_size, putRow_size]; simp⟩
  · rw [putRow_other (by omega), putRow_blk h1 (by omega), splice_whole h]
  · rw [putRow_blk (by rw [putRow_other (by omega)]; exact h2) (by omega), splice_whole h']
  · exact Go.WW.Below.putRow (Go.WW.Below.putRow (((Below.refl _ w).alloc (Nat.le_refl _) _).alloc (by simp) _) (Nat.le_refl _)) (by omega)
theorem pol3_name (f : Int) : (pol3 f).name.size ≤ lim := by show 1 ≤ lim; unfold lim; omega
end Go.WW
namespace Go.Proofs.YtnpddjmjdpgohaaGreatDoor
open Go.RowKit Go.WW
structure KS (V : World) (E : Nat) (r : ERaw) (f l : Int) : Prop where
  e : V.heap[E]? = some (.cells (entC r (entK f l)) 31)
  p : V.heap[E + 1]? = some (.cells (polC (pol3 3)) 33)
  d : Dep V (fun k => k ≠ E ∧ k < V.heap.size) (fun x => EntAt x r (entK f l))
theorem KS.later {V V' : World} {E : Nat} {r : ERaw} {f l : Int} (h : KS V E r f l) (hb : Below V.heap.size V V') : KS V' E r f l :=
  ⟨still_blk hb h.e, still_blk hb h.p, h.d.to (fun k hk => hb.block k hk.2) (fun _ hk => ⟨hk.1, Nat.lt_of_lt_of_le hk.2 hb.size⟩)⟩
theorem KS.put {V V' : World} {E : Nat} {r r' : ERaw} {f l f' l' : Int} {o : Obj} (h : KS V E r f l) (hb : Below V.heap.size V V') (hd : Dep V' (fresh V.heap.size V') (fun x => EntAt x r' (entK f' l'))) : KS (putRow (V'.alloc o) E 0 (entC r' (entK f' l'))) E r' f' l' := by
  have hE : E < V.heap.size := (Array.getElem?_eq_some_iff.1 h.e).1
  have hE1 : E + 1 < V.heap.size := (Array.getElem?_eq_some_iff.1 h.p).1
  have hs := hb.size
  have e1 : (V'.alloc o).heap[E]? = some (.cells (entC r (entK f l)) 31) := by rw [Below.heap_alloc _ _ _ (by omega)]; exact still_blk hb h.e
  refine ⟨?_, ?_, ?_⟩
  · rw [putRow_blk e1 (by simp [go_sem]), splice_whole (by simp [go_sem])]
  · rw [putRow_other (by omega), Below.heap_alloc _ _ _ (by omega)]; exact still_blk hb h.p
  · refine hd.to (fun k hk => ?_) (fun k hk => ⟨by have := hk.1; omega, by rw [putRow_size]; have := hk.2; simp; omega⟩)
    have h1 := hk.1
    have h2 := hk.2
    rw [putRow_other (by omega), Below.heap_alloc _ _ _ h2]
theorem KS.ent {V : World} {E : Nat} {r : ERaw} {f l : Int} (h : KS V E r f l) : EntAt V r (entK f l) := h.d.out

theorem ok_0_0_10 : okAll (entK 0 0) (pol3 3) 10 = true := by kernel_rfl
theorem ok_1_10_10 : okAll (entK 1 10) (pol3 3) 10 = true := by kernel_rfl
theorem ok_2_10_10 : okAll (entK 2 10) (pol3 3) 10 = true := by kernel_rfl
theorem ok_3_10_59 : okAll (entK 3 10) (pol3 3) 59 = true := by kernel_rfl
theorem ok_3_10_60 : okAll (entK 3 10) (pol3 3) 60 = true := by kernel_rfl
theorem ok_1_60_160 : okAll (entK 1 60) (pol3 3) 160 = true := by kernel_rfl
theorem ok_1_60_161 : okAll (entK 1 60) (pol3 3) 161 = true := by kernel_rfl
theorem ok_0_10_10 : okAll (entK 0 10) (pol3 3) 10 = true := by kernel_rfl
theorem ok0 : okAll (entK 3 10) (pol3 0) 10 = true := by kernel_rfl
theorem lk_0_0_10 : lockedAt (entK 0 0) (pol3 3) 10 = false := by kernel_rfl
theorem lk_1_10_10 : lockedAt (entK 1 10) (pol3 3) 10 = false := by kernel_rfl
theorem lk_2_10_10 : lockedAt (entK 2 10) (pol3 3) 10 = false := by kernel_rfl
theorem lk_3_10_59 : lockedAt (entK 3 10) (pol3 3) 59 = true := by kernel_rfl
theorem lk_3_10_60 : lockedAt (entK 3 10) (pol3 3) 60 = false := by kernel_rfl
theorem lk_0_10_10 : lockedAt (entK 0 10) (pol3 3) 10 = false := by kernel_rfl
theorem lk0 : lockedAt (entK 3 10) (pol3 0) 10 = false := by kernel_rfl
theorem at_0_0_10 : attempted (entK 0 0) (pol3 3) false 10 = entK 1 10 := by kernel_rfl
theorem at_1_10_10 : attempted (entK 1 10) (pol3 3) false 10 = entK 2 10 := by kernel_rfl
theorem at_2_10_10 : attempted (entK 2 10) (pol3 3) false 10 = entK 3 10 := by kernel_rfl
theorem at_3_10_60 : attempted (entK 3 10) (pol3 3) false 60 = entK 1 60 := by kernel_rfl
theorem cnt_3_10_59 (r : ERaw) (w : World) (he : EntAt w r (entK 3 10)) : Calls Tryz.prog 7 #[.agg (entC r (entK 3 10)), .agg (polC (pol3 3)), .int .i64 59] w fun e w' => e = .returned (.tuple #[.int .i64 3, .int .i64 0]) ∧ Below w.heap.size w w' := by
  have h := lCount_c r (entK 3 10) (pol3 3) 59 w he (pol3_name 3)
  rw [ok_3_10_59, show countOf (entK 3 10) (pol3 3) 59 = 3 by kernel_rfl] at h
  exact h
theorem cnt_1_60_160 (r : ERaw) (w : World) (he : EntAt w r (entK 1 60)) : Calls Tryz.prog 7 #[.agg (entC r (entK 1 60)), .agg (polC (pol3 3)), .int .i64 160] w fun e w' => e = .returned (.tuple #[.int .i64 1, .int .i64 0]) ∧ Below w.heap.size w w' := by
  have h := lCount_c r (entK 1 60) (pol3 3) 160 w he (pol3_name 3)
  rw [ok_1_60_160, show countOf (entK 1 60) (pol3 3) 160 = 1 by kernel_rfl] at h
  exact h
theorem cnt_1_60_161 (r : ERaw) (w : World) (he : EntAt w r (entK 1 60)) : Calls Tryz.prog 7 #[.agg (entC r (entK 1 60)), .agg (polC (pol3 3)), .int .i64 161] w fun e w' => e = .returned (.tuple #[.int .i64 0, .int .i64 0]) ∧ Below w.heap.size w w' := by
  have h := lCount_c r (entK 1 60) (pol3 3) 161 w he (pol3_name 3)
  rw [ok_1_60_161, show countOf (entK 1 60) (pol3 3) 161 = 0 by kernel_rfl] at h
  exact h
theorem until59 (r : ERaw) (w : World) (he : EntAt w r (entK 3 10)) : Calls Tryz.prog 9 #[.agg (entC r (entK 3 10)), .agg (polC (pol3 3)), .int .i64 59] w fun e w' => e = .returned (.tuple #[.int .i64 60, .int .i64 0]) ∧ Below w.heap.size w w' := by
  have h := lUntil_c r (entK 3 10) (pol3 3) 59 w he (pol3_name 3)
  rw [ok_3_10_59, lk_3_10_59, show untilOf (entK 3 10) (pol3 3) = 60 by kernel_rfl] at h
  exact h
theorem until60 (r : ERaw) (w : World) (he : EntAt w r (entK 3 10)) : Calls Tryz.prog 9 #[.agg (entC r (entK 3 10)), .agg (polC (pol3 3)), .int .i64 60] w fun e w' => e = .returned (.tuple #[.int .i64 0, .int .i64 8]) ∧ Below w.heap.size w w' := by
  have h := lUntil_c r (entK 3 10) (pol3 3) 60 w he (pol3_name 3)
  rw [ok_3_10_60, lk_3_10_60] at h
  exact h
theorem tri_0_0_10 (r : ERaw) (w : World) (he : EntAt w r (entK 0 0)) : Calls Tryz.prog 23 #[.agg (entC r (entK 0 0)), .agg (polC (pol3 3)), .bool false, .int .i64 10] w (EntOut w (entK 1 10) 0) := by
  have h := lAttempt_ok r (entK 0 0) (pol3 3) false 10 w he (pol3_name 3) ok_0_0_10 lk_0_0_10
  rw [at_0_0_10] at h
  exact h
theorem tri_1_10_10 (r : ERaw) (w : World) (he : EntAt w r (entK 1 10)) : Calls Tryz.prog 23 #[.agg (entC r (entK 1 10)), .agg (polC (pol3 3)), .bool false, .int .i64 10] w (EntOut w (entK 2 10) 0) := by
  have h := lAttempt_ok r (entK 1 10) (pol3 3) false 10 w he (pol3_name 3) ok_1_10_10 lk_1_10_10
  rw [at_1_10_10] at h
  exact h
theorem tri_2_10_10 (r : ERaw) (w : World) (he : EntAt w r (entK 2 10)) : Calls Tryz.prog 23 #[.agg (entC r (entK 2 10)), .agg (polC (pol3 3)), .bool false, .int .i64 10] w (EntOut w (entK 3 10) 0) := by
  have h := lAttempt_ok r (entK 2 10) (pol3 3) false 10 w he (pol3_name 3) ok_2_10_10 lk_2_10_10
  rw [at_2_10_10] at h
  exact h
theorem tri_3_10_60 (r : ERaw) (w : World) (he : EntAt w r (entK 3 10)) : Calls Tryz.prog 23 #[.agg (entC r (entK 3 10)), .agg (polC (pol3 3)), .bool false, .int .i64 60] w (EntOut w (entK 1 60) 0) := by
  have h := lAttempt_ok r (entK 3 10) (pol3 3) false 60 w he (pol3_name 3) ok_3_10_60 lk_3_10_60
  rw [at_3_10_60] at h
  exact h
theorem unl (r : ERaw) (w : World) (he : EntAt w r (entK 3 10)) : Calls Tryz.prog 26 #[.agg (entC r (entK 3 10))] w (EntOut w (entK 0 10) 0) := lUnlock_yes r (entK 3 10) w he (by kernel_rfl)
theorem lkT_59 (r : ERaw) (w : World) (he : EntAt w r (entK 3 10)) : Calls Tryz.prog 25 #[.agg (entC r (entK 3 10)), .agg (polC (pol3 3)), .int .i64 59, .bool true] w fun e w' => e = .returned (.bool true) ∧ Below w.heap.size w w' := by
  have h := llocked_c r (entK 3 10) (pol3 3) 59 true w he (pol3_name 3) ok_3_10_59
  rw [lk_3_10_59] at h
  exact h
theorem lkF_60 (r : ERaw) (w : World) (he : EntAt w r (entK 3 10)) : Calls Tryz.prog 25 #[.agg (entC r (entK 3 10)), .agg (polC (pol3 3)), .int .i64 60, .bool false] w fun e w' => e = .returned (.bool true) ∧ Below w.heap.size w w' := by
  have h := llocked_c r (entK 3 10) (pol3 3) 60 false w he (pol3_name 3) ok_3_10_60
  rw [lk_3_10_60] at h
  exact h
theorem lkF_u (r : ERaw) (w : World) (he : EntAt w r (entK 0 10)) : Calls Tryz.prog 25 #[.agg (entC r (entK 0 10)), .agg (polC (pol3 3)), .int .i64 10, .bool false] w fun e w' => e = .returned (.bool true) ∧ Below w.heap.size w w' := by
  have h := llocked_c r (entK 0 10) (pol3 3) 10 false w he (pol3_name 3) ok_0_10_10
  rw [lk_0_10_10] at h
  exact h
theorem lkF_q (r : ERaw) (w : World) (he : EntAt w r (entK 3 10)) : Calls Tryz.prog 25 #[.agg (entC r (entK 3 10)), .agg (polC (pol3 0)), .int .i64 10, .bool false] w fun e w' => e = .returned (.bool true) ∧ Below w.heap.size w w' := by
  have h := llocked_c r (entK 3 10) (pol3 0) 10 false w he (pol3_name 0) ok0
  rw [lk0] at h
  exact h
theorem pol_set0 : (polC (pol3 3)).setIfInBounds 7 (.int .i64 0) = polC (pol3 0) := by kernel_rfl
end Go.Proofs.YtnpddjmjdpgohaaGreatDoor

namespace Go.Proofs.YtnpddjmjdpgohaaGreatDoor
open Go.RowKit Go.WW
set_option maxRecDepth 100000 in
set_option maxHeartbeats 16000000 in
theorem known_c (w : World) : Calls Tryz.prog 6 #[] w fun e w' => e = .returned (.bool true) ∧ Below w.heap.size w w' := by
  go_enter Tryz.func6, Tryz.ntmps6
  go_wp2_with fail
  refine (given_c _).mono ?_
  rintro e v0 ⟨r0, rfl, hb0, hd0⟩
  dsimp only
  go_wp2_with fail
  obtain ⟨x1, x2, x3, x4⟩ := two_boxes (w := v0) (Z := #[.slice none 0 0, .string ⟨#[]⟩, .slice none 0 0, .int .u32 0, .int .i64 0, .slice none 0 0, .string ⟨#[]⟩, .int .i64 0, .int .i64 0, .int .i64 0, .int .i64 0, .int .i64 0, .int .i64 0, .int .i64 0, .slice none 0 0, .slice none 0 0, .slice none 0 0]) (Z' := #[.string ⟨#[]⟩, .int .i64 0, .int .i64 0, .int .i64 0, .int .i64 0, .int .i64 0, .int .i64 0, .int .i64 0, .int .i64 0, .int .i64 0]) (cs := entC r0 (entK 0 0)) (cs' := polC (pol3 3)) (T := 31) (T' := 33) (by simp [go_sem]) (by simp [go_sem])
  have ks0 : KS _ v0.heap.size r0 0 0 := ⟨x1, x2, hd0.to (fun k hk => x3.block k hk.2) (fun k hk => ⟨by have := hk.2; omega, by have := hk.2; omega⟩)⟩
  have hB0 : Below w.heap.size w _ := below_step hb0 x3
  have hE : v0.heap.size + 1 < (putRow (putRow ((v0.alloc (.cells #[.slice none 0 0, .string ⟨#[]⟩, .slice none 0 0, .int .u32 0, .int .i64 0, .slice none 0 0, .string ⟨#[]⟩, .int .i64 0, .int .i64 0, .int .i64 0, .int .i64 0, .int .i64 0, .int .i64 0, .int .i64 0, .slice none 0 0, .slice none 0 0, .slice none 0 0] 31)).alloc (.cells #[.string ⟨#[]⟩, .int .i64 0, .int .i64 0, .int .i64 0, .int .i64 0, .int .i64 0, .int .i64 0, .int .i64 0, .int .i64 0, .int .i64 0] 33)) v0.heap.size 0 (entC r0 (entK 0 0))) (v0.heap.size + 1) 0 (polC (pol3 3))).heap.size := by omega
  clear x1 x2 x3 x4 hd0
  generalize putRow (putRow ((v0.alloc (.cells #[.slice none 0 0, .string ⟨#[]⟩, .slice none 0 0, .int .u32 0, .int .i64 0, .slice none 0 0, .string ⟨#[]⟩, .int .i64 0, .int .i64 0, .int .i64 0, .int .i64 0, .int .i64 0, .int .i64 0, .int .i64 0, .slice none 0 0, .slice none 0 0, .slice none 0 0] 31)).alloc (.cells #[.string ⟨#[]⟩, .int .i64 0, .int .i64 0, .int .i64 0, .int .i64 0, .int .i64 0, .int .i64 0, .int .i64 0, .int .i64 0, .int .i64 0] 33)) v0.heap.size 0 (entC r0 (entK 0 0))) (v0.heap.size + 1) 0 (polC (pol3 3)) = V0 at *
  have hEw : w.heap.size ≤ v0.heap.size := hb0.size
  generalize v0.heap.size = E at *
  clear hb0
  refine wp_loop_rounds 4 ?_
  rw [rounds_succ]
  obtain ⟨hc, hf, hr, hlt⟩ := box_facts ks0.e
  obtain ⟨hc2, hf2, hr2, hlt2⟩ := box_facts ks0.p
  go_wp2_with fail
  refine (tri_0_0_10 _ _ ks0.ent).mono ?_
  rintro e v1 ⟨r1, rfl, hb1, hd1⟩
  clear hc hf hr hlt hc2 hf2 hr2 hlt2
  have ks1 := ks0.put (o := .cells (entC r1 (entK 1 10)) 31) hb1 hd1
  have hcp : canPut v1 E 0 17 = true := canPut_of_cells (still_blk hb1 ks0.e) (by simp [go_sem])
  have hE1 : E < v1.heap.size := by have := hb1.size; omega
  have hne : v1.heap.size ≠ E := by omega
  have hB1 : Below w.heap.size w (putRow (v1.alloc (.cells (entC r1 (entK 1 10)) 31)) E 0 (entC r1 (entK 1 10))) := Go.WW.Below.putRow ((below_step hB0 hb1).alloc (below_step hB0 hb1).size _) hEw
  have hSz : E + 1 < (putRow (v1.alloc (.cells (entC r1 (entK 1 10)) 31)) E 0 (entC r1 (entK 1 10))).heap.size := by rw [putRow_size]; have := hb1.size; simp; omega
  dsimp only
  go_wp2_with (go_at_call 11; refine (num_c _ _).mono ?_; rintro e w' ⟨rfl, rfl⟩)
  clear hcp hne hE1 hE ks0 hB0 hd1 hb1
  generalize putRow (v1.alloc (.cells (entC r1 (entK 1 10)) 31)) E 0 (entC r1 (entK 1 10)) = V1 at *
  have hE := hSz
  clear hSz
  rw [rounds_succ]
  obtain ⟨hc, hf, hr, hlt⟩ := box_facts ks1.e
  obtain ⟨hc2, hf2, hr2, hlt2⟩ := box_facts ks1.p
  go_wp2_with fail
  refine (tri_1_10_10 _ _ ks1.ent).mono ?_
  rintro e v2 ⟨r2, rfl, hb2, hd2⟩
  clear hc hf hr hlt hc2 hf2 hr2 hlt2
  have ks2 := ks1.put (o := .cells (entC r2 (entK 2 10)) 31) hb2 hd2
  have hcp : canPut v2 E 0 17 = true := canPut_of_cells (still_blk hb2 ks1.e) (by simp [go_sem])
  have hE2 : E < v2.heap.size := by have := hb2.size; omega
  have hne : v2.heap.size ≠ E := by omega
  have hB2 : Below w.heap.size w (putRow (v2.alloc (.cells (entC r2 (entK 2 10)) 31)) E 0 (entC r2 (entK 2 10))) := Go.WW.Below.putRow ((below_step hB1 hb2).alloc (below_step hB1 hb2).size _) hEw
  have hSz : E + 1 < (putRow (v2.alloc (.cells (entC r2 (entK 2 10)) 31)) E 0 (entC r2 (entK 2 10))).heap.size := by rw [putRow_size]; have := hb2.size; simp; omega
  dsimp only
  go_wp2_with (go_at_call 11; refine (num_c _ _).mono ?_; rintro e w' ⟨rfl, rfl⟩)
  clear hcp hne hE2 hE ks1 hB1 hd2 hb2
  generalize putRow (v2.alloc (.cells (entC r2 (entK 2 10)) 31)) E 0 (entC r2 (entK 2 10)) = V2 at *
  have hE := hSz
  clear hSz
  rw [rounds_succ]
  obtain ⟨hc, hf, hr, hlt⟩ := box_facts ks2.e
  obtain ⟨hc2, hf2, hr2, hlt2⟩ := box_facts ks2.p
  go_wp2_with fail
  refine (tri_2_10_10 _ _ ks2.ent).mono ?_
  rintro e v3 ⟨r3, rfl, hb3, hd3⟩
  clear hc hf hr hlt hc2 hf2 hr2 hlt2
  have ks3 := ks2.put (o := .cells (entC r3 (entK 3 10)) 31) hb3 hd3
  have hcp : canPut v3 E 0 17 = true := canPut_of_cells (still_blk hb3 ks2.e) (by simp [go_sem])
  have hE3 : E < v3.heap.size := by have := hb3.size; omega
  have hne : v3.heap.size ≠ E := by omega
  have hB3 : Below w.heap.size w (putRow (v3.alloc (.cells (entC r3 (entK 3 10)) 31)) E 0 (entC r3 (entK 3 10))) := Go.WW.Below.putRow ((below_step hB2 hb3).alloc (below_step hB2 hb3).size _) hEw
  have hSz : E + 1 < (putRow (v3.alloc (.cells (entC r3 (entK 3 10)) 31)) E 0 (entC r3 (entK 3 10))).heap.size := by rw [putRow_size]; have := hb3.size; simp; omega
  dsimp only
  go_wp2_with (go_at_call 11; refine (num_c _ _).mono ?_; rintro e w' ⟨rfl, rfl⟩)
  clear hcp hne hE3 hE ks2 hB2 hd3 hb3
  generalize putRow (v3.alloc (.cells (entC r3 (entK 3 10)) 31)) E 0 (entC r3 (entK 3 10)) = V3 at *
  have hE := hSz
  clear hSz
  rw [rounds_succ]
  obtain ⟨hc, hf, hr, hlt⟩ := box_facts ks3.e
  obtain ⟨hc2, hf2, hr2, hlt2⟩ := box_facts ks3.p
  go_wp2_with fail
  refine (cnt_3_10_59 _ _ ks3.ent).mono ?_
  rintro e v4 ⟨rfl, hb4⟩
  clear hc hf hr hlt hc2 hf2 hr2 hlt2
  have hg4 := hb4
  have ks4 := ks3.later hg4
  have hB4 := below_step hB3 hg4
  obtain ⟨hc, hf, hr, hlt⟩ := box_facts ks4.e
  obtain ⟨hc2, hf2, hr2, hlt2⟩ := box_facts ks4.p
  dsimp only
  go_wp2_with (first | (go_at_call 11; refine (num_c _ _).mono ?_; rintro e w' ⟨rfl, rfl⟩) | (go_at_call 24; refine (is_c _ _ _ _).mono ?_; rintro e w' ⟨rfl, rfl⟩))
  refine (until59 _ _ ks4.ent).mono ?_
  rintro e v5 ⟨rfl, hb5⟩
  clear hc hf hr hlt hc2 hf2 hr2 hlt2
  have hg5 := hb5
  have ks5 := ks4.later hg5
  have hB5 := below_step hB4 hg5
  obtain ⟨hc, hf, hr, hlt⟩ := box_facts ks5.e
  obtain ⟨hc2, hf2, hr2, hlt2⟩ := box_facts ks5.p
  dsimp only
  go_wp2_with (first | (go_at_call 11; refine (num_c _ _).mono ?_; rintro e w' ⟨rfl, rfl⟩) | (go_at_call 24; refine (is_c _ _ _ _).mono ?_; rintro e w' ⟨rfl, rfl⟩))
  refine (lAttempt_locked _ (entK 3 10) (pol3 3) true 59 _ ks5.ent (pol3_name 3) ok_3_10_59 lk_3_10_59).mono ?_
  rintro e v6 ⟨r6, rfl, hb6, hd6⟩
  clear hc hf hr hlt hc2 hf2 hr2 hlt2
  have hg6 : Below v5.heap.size v5 (v6.alloc (.cells (entC r6 zeroD) 31)) := hb6.alloc hb6.size _
  have ks6 := ks5.later hg6
  have hB6 := below_step hB5 hg6
  obtain ⟨hc, hf, hr, hlt⟩ := box_facts ks6.e
  obtain ⟨hc2, hf2, hr2, hlt2⟩ := box_facts ks6.p
  dsimp only
  go_wp2_with (first | (go_at_call 11; refine (num_c _ _).mono ?_; rintro e w' ⟨rfl, rfl⟩) | (go_at_call 24; refine (is_c _ _ _ _).mono ?_; rintro e w' ⟨rfl, rfl⟩))
  generalize (v6.alloc (.cells (entC r6 zeroD) 31)) = u6 at *
  refine (lkT_59 _ _ ks6.ent).mono ?_
  rintro e v7 ⟨rfl, hb7⟩
  clear hc hf hr hlt hc2 hf2 hr2 hlt2
  have hg7 := hb7
  have ks7 := ks6.later hg7
  have hB7 := below_step hB6 hg7
  obtain ⟨hc, hf, hr, hlt⟩ := box_facts ks7.e
  obtain ⟨hc2, hf2, hr2, hlt2⟩ := box_facts ks7.p
  dsimp only
  go_wp2_with (first | (go_at_call 11; refine (num_c _ _).mono ?_; rintro e w' ⟨rfl, rfl⟩) | (go_at_call 24; refine (is_c _ _ _ _).mono ?_; rintro e w' ⟨rfl, rfl⟩))
  refine (lkF_60 _ _ ks7.ent).mono ?_
  rintro e v8 ⟨rfl, hb8⟩
  clear hc hf hr hlt hc2 hf2 hr2 hlt2
  have hg8 := hb8
  have ks8 := ks7.later hg8
  have hB8 := below_step hB7 hg8
  obtain ⟨hc, hf, hr, hlt⟩ := box_facts ks8.e
  obtain ⟨hc2, hf2, hr2, hlt2⟩ := box_facts ks8.p
  dsimp only
  go_wp2_with (first | (go_at_call 11; refine (num_c _ _).mono ?_; rintro e w' ⟨rfl, rfl⟩) | (go_at_call 24; refine (is_c _ _ _ _).mono ?_; rintro e w' ⟨rfl, rfl⟩))
  refine (until60 _ _ ks8.ent).mono ?_
  rintro e v9 ⟨rfl, hb9⟩
  clear hc hf hr hlt hc2 hf2 hr2 hlt2
  have hg9 := hb9
  have ks9 := ks8.later hg9
  have hB9 := below_step hB8 hg9
  obtain ⟨hc, hf, hr, hlt⟩ := box_facts ks9.e
  obtain ⟨hc2, hf2, hr2, hlt2⟩ := box_facts ks9.p
  dsimp only
  go_wp2_with (first | (go_at_call 11; refine (num_c _ _).mono ?_; rintro e w' ⟨rfl, rfl⟩) | (go_at_call 24; refine (is_c _ _ _ _).mono ?_; rintro e w' ⟨rfl, rfl⟩))
  refine (unl _ _ ks9.ent).mono ?_
  rintro e v10 ⟨r10, rfl, hb10, hd10⟩
  clear hc hf hr hlt hc2 hf2 hr2 hlt2
  have hg10 : Below v9.heap.size v9 (v10.alloc (.cells (entC r10 (entK 0 10)) 31)) := hb10.alloc hb10.size _
  have ks10 := ks9.later hg10
  have hB10 := below_step hB9 hg10
  have hx_U : (v10.alloc (.cells (entC r10 (entK 0 10)) 31)).heap[v10.heap.size]? = some (.cells (entC r10 (entK 0 10)) 31) := World.alloc_heap_new _ _
  have he_U : EntAt (v10.alloc (.cells (entC r10 (entK 0 10)) 31)) r10 (entK 0 10) := hd10.out.later ((Below.refl _ v10).alloc (Nat.le_refl _) _)
  obtain ⟨hc, hf, hr, hlt⟩ := box_facts ks10.e
  obtain ⟨hc2, hf2, hr2, hlt2⟩ := box_facts ks10.p
  obtain ⟨hc_U, hf_U, hr_U, hlt_U⟩ := box_facts hx_U
  dsimp only
  go_wp2_with (first | (go_at_call 11; refine (num_c _ _).mono ?_; rintro e w' ⟨rfl, rfl⟩) | (go_at_call 24; refine (is_c _ _ _ _).mono ?_; rintro e w' ⟨rfl, rfl⟩))
  generalize (v10.alloc (.cells (entC r10 (entK 0 10)) 31)) = u10 at *
  generalize v10.heap.size = B_U at *
  refine (tri_3_10_60 _ _ ks10.ent).mono ?_
  rintro e v11 ⟨r11, rfl, hb11, hd11⟩
  clear hc hf hr hlt hc2 hf2 hr2 hlt2 hc_U hf_U hr_U hlt_U
  have hg11 : Below u10.heap.size u10 (v11.alloc (.cells (entC r11 (entK 1 60)) 31)) := hb11.alloc hb11.size _
  have ks11 := ks10.later hg11
  have hB11 := below_step hB10 hg11
  have hx_U := still_blk hg11 hx_U
  have he_U := he_U.later hg11
  have hx_N : (v11.alloc (.cells (entC r11 (entK 1 60)) 31)).heap[v11.heap.size]? = some (.cells (entC r11 (entK 1 60)) 31) := World.alloc_heap_new _ _
  have he_N : EntAt (v11.alloc (.cells (entC r11 (entK 1 60)) 31)) r11 (entK 1 60) := hd11.out.later ((Below.refl _ v11).alloc (Nat.le_refl _) _)
  obtain ⟨hc, hf, hr, hlt⟩ := box_facts ks11.e
  obtain ⟨hc2, hf2, hr2, hlt2⟩ := box_facts ks11.p
  obtain ⟨hc_U, hf_U, hr_U, hlt_U⟩ := box_facts hx_U
  obtain ⟨hc_N, hf_N, hr_N, hlt_N⟩ := box_facts hx_N
  dsimp only
  go_wp2_with (first | (go_at_call 11; refine (num_c _ _).mono ?_; rintro e w' ⟨rfl, rfl⟩) | (go_at_call 24; refine (is_c _ _ _ _).mono ?_; rintro e w' ⟨rfl, rfl⟩))
  generalize (v11.alloc (.cells (entC r11 (entK 1 60)) 31)) = u11 at *
  generalize v11.heap.size = B_N at *
  refine (cnt_1_60_160 _ _ he_N).mono ?_
  rintro e v12 ⟨rfl, hb12⟩
  clear hc hf hr hlt hc2 hf2 hr2 hlt2 hc_U hf_U hr_U hlt_U hc_N hf_N hr_N hlt_N
  have hg12 := hb12
  have ks12 := ks11.later hg12
  have hB12 := below_step hB11 hg12
  have hx_U := still_blk hg12 hx_U
  have hx_N := still_blk hg12 hx_N
  have he_U := he_U.later hg12
  have he_N := he_N.later hg12
  obtain ⟨hc, hf, hr, hlt⟩ := box_facts ks12.e
  obtain ⟨hc2, hf2, hr2, hlt2⟩ := box_facts ks12.p
  obtain ⟨hc_U, hf_U, hr_U, hlt_U⟩ := box_facts hx_U
  obtain ⟨hc_N, hf_N, hr_N, hlt_N⟩ := box_facts hx_N
  dsimp only
  go_wp2_with (first | (go_at_call 11; refine (num_c _ _).mono ?_; rintro e w' ⟨rfl, rfl⟩) | (go_at_call 24; refine (is_c _ _ _ _).mono ?_; rintro e w' ⟨rfl, rfl⟩))
  have hps := pol_set0
  refine (cnt_1_60_161 _ _ he_N).mono ?_
  rintro e v13 ⟨rfl, hb13⟩
  clear hc hf hr hlt hc2 hf2 hr2 hlt2 hc_U hf_U hr_U hlt_U hc_N hf_N hr_N hlt_N
  have hg13 := hb13
  have ks13 := ks12.later hg13
  have hB13 := below_step hB12 hg13
  have hx_U := still_blk hg13 hx_U
  have hx_N := still_blk hg13 hx_N
  have he_U := he_U.later hg13
  have he_N := he_N.later hg13
  obtain ⟨hc, hf, hr, hlt⟩ := box_facts ks13.e
  obtain ⟨hc2, hf2, hr2, hlt2⟩ := box_facts ks13.p
  obtain ⟨hc_U, hf_U, hr_U, hlt_U⟩ := box_facts hx_U
  obtain ⟨hc_N, hf_N, hr_N, hlt_N⟩ := box_facts hx_N
  dsimp only
  go_wp2_with (first | (go_at_call 11; refine (num_c _ _).mono ?_; rintro e w' ⟨rfl, rfl⟩) | (go_at_call 24; refine (is_c _ _ _ _).mono ?_; rintro e w' ⟨rfl, rfl⟩))
  clear hc hf hr hlt hc2 hf2 hr2 hlt2 hc_U hf_U hr_U hlt_U hc_N hf_N hr_N hlt_N
  clear hps
  have hgq : Below v13.heap.size v13 (v13.alloc (.cells (polC (pol3 0)) 33)) := (Below.refl _ _).alloc (Nat.le_refl _) _
  have ksq := ks13.later hgq
  have hBq := below_step hB13 hgq
  have hx_U := still_blk hgq hx_U
  have hx_N := still_blk hgq hx_N
  have he_U := he_U.later hgq
  have he_N := he_N.later hgq
  have hx_Q : (v13.alloc (.cells (polC (pol3 0)) 33)).heap[v13.heap.size]? = some (.cells (polC (pol3 0)) 33) := World.alloc_heap_new _ _
  generalize (v13.alloc (.cells (polC (pol3 0)) 33)) = u13 at *
  generalize v13.heap.size = B_Q at *
  have hfk : (entK 1 60).fails = 1 := rfl
  obtain ⟨hc, hf, hr, hlt⟩ := box_facts ksq.e
  obtain ⟨hc2, hf2, hr2, hlt2⟩ := box_facts ksq.p
  obtain ⟨hc_U, hf_U, hr_U, hlt_U⟩ := box_facts hx_U
  obtain ⟨hc_N, hf_N, hr_N, hlt_N⟩ := box_facts hx_N
  obtain ⟨hc_Q, hf_Q, hr_Q, hlt_Q⟩ := box_facts hx_Q
  refine (lkF_u _ _ he_U).mono ?_
  rintro e v14 ⟨rfl, hb14⟩
  clear hc hf hr hlt hc2 hf2 hr2 hlt2 hc_U hf_U hr_U hlt_U hc_N hf_N hr_N hlt_N hc_Q hf_Q hr_Q hlt_Q
  have hg14 := hb14
  have ks14 := ksq.later hg14
  have hB14 := below_step hBq hg14
  have hx_U := still_blk hg14 hx_U
  have hx_N := still_blk hg14 hx_N
  have hx_Q := still_blk hg14 hx_Q
  have he_U := he_U.later hg14
  have he_N := he_N.later hg14
  obtain ⟨hc, hf, hr, hlt⟩ := box_facts ks14.e
  obtain ⟨hc2, hf2, hr2, hlt2⟩ := box_facts ks14.p
  obtain ⟨hc_U, hf_U, hr_U, hlt_U⟩ := box_facts hx_U
  obtain ⟨hc_N, hf_N, hr_N, hlt_N⟩ := box_facts hx_N
  obtain ⟨hc_Q, hf_Q, hr_Q, hlt_Q⟩ := box_facts hx_Q
  dsimp only
  go_wp2_with (first | (go_at_call 11; refine (num_c _ _).mono ?_; rintro e w' ⟨rfl, rfl⟩) | (go_at_call 24; refine (is_c _ _ _ _).mono ?_; rintro e w' ⟨rfl, rfl⟩))
  refine (lkF_q _ _ ks14.ent).mono ?_
  rintro e v15 ⟨rfl, hb15⟩
  clear hc hf hr hlt hc2 hf2 hr2 hlt2 hc_U hf_U hr_U hlt_U hc_N hf_N hr_N hlt_N hc_Q hf_Q hr_Q hlt_Q
  have hg15 := hb15
  have ks15 := ks14.later hg15
  have hB15 := below_step hB14 hg15
  have hx_U := still_blk hg15 hx_U
  have hx_N := still_blk hg15 hx_N
  have hx_Q := still_blk hg15 hx_Q
  have he_U := he_U.later hg15
  have he_N := he_N.later hg15
  obtain ⟨hc, hf, hr, hlt⟩ := box_facts ks15.e
  obtain ⟨hc2, hf2, hr2, hlt2⟩ := box_facts ks15.p
  obtain ⟨hc_U, hf_U, hr_U, hlt_U⟩ := box_facts hx_U
  obtain ⟨hc_N, hf_N, hr_N, hlt_N⟩ := box_facts hx_N
  obtain ⟨hc_Q, hf_Q, hr_Q, hlt_Q⟩ := box_facts hx_Q
  dsimp only
  go_wp2_with (first | (go_at_call 11; refine (num_c _ _).mono ?_; rintro e w' ⟨rfl, rfl⟩) | (go_at_call 24; refine (is_c _ _ _ _).mono ?_; rintro e w' ⟨rfl, rfl⟩))
  go_ret
  exact ⟨rfl, hB15⟩
end Go.Proofs.YtnpddjmjdpgohaaGreatDoor
