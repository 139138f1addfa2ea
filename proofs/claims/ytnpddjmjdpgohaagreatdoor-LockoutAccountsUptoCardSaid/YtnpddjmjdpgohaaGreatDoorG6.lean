/- Part 6 of the proof about watchword's lockout: texts F7. -/
import Derived.Test.YtnpddjmjdpgohaaGreatDoorG5
import Derived.Test.YtnpddjmjdpgohaaGreatDoorGD

namespace Go.WW
open Go.RowKit
def bsy (x d : Entry) : Bool := hasN x d.name || d.aliases.any (hasN x)
def bsyTo (x d : Entry) (k : Nat) : Bool := hasN x d.name || (d.aliases.take k).any (hasN x)
theorem bsy_step {x d : Entry} {k : Nat} (h : k < d.aliases.length) : bsyTo x d (k + 1) = (bsyTo x d k || hasN x d.aliases[k]) := by
 unfold bsyTo
 rw [List.take_succ_eq_append_getElem h, List.any_append]
 simp [Bool.or_assoc]
theorem bsy_end {x d : Entry} {k : Nat} (h : d.aliases.length ≤ k) : bsyTo x d k = bsy x d := by unfold bsyTo bsy; rw [List.take_of_length_le h]
def OutE (q : Sl) (D : Db) (X : List EE) (w : World) (x : Ending) (w' : World) : Prop := ∃ s : Sl, x = .returned (.tuple #[.agg (rdbC s q { D with entries := X.map (·.2), serial := D.serial + 1 }), .int .i64 0]) ∧ Below w.heap.size w w' ∧ Dep w' (fresh w.heap.size w') (fun y => RowsX y s.a X)
theorem EntAt.realm {w : World} {r : ERaw} {d : Entry} (h : EntAt w r d) : d.name.realm.size ≤ lim := h.name.2
end Go.WW
namespace Go.Proofs.YtnpddjmjdpgohaaGreatDoor
open Go.RowKit Go.WW
theorem valid24_b (r : ERaw) (d : Entry) (w : World) (he : EntAt w r d) (b : Bool) (h : entryOk d = b) : Calls Tryz.prog 32 #[.agg (entC r d)] w fun e w' => e = .returned (.bool b) ∧ Below w.heap.size w w' := by
 have x := valid24_c r d w he; rw [h] at x; exact x
set_option maxRecDepth 100000 in
set_option maxHeartbeats 2000000 in
theorem put26_bad (e q : Sl) (D : Db) (r : ERaw) (d : Entry) (w : World) (he : EntAt w r d) (hv : entryOk d = false) : Calls Tryz.prog 38 #[.agg (rdbC e q D), .agg (entC r d)] w fun x w' => x = .returned (.tuple #[.agg (rdbC e q D), .int .i64 2]) ∧ Below w.heap.size w w' := by
 have hB : Below w.heap.size w (((w.alloc (.cells (rdbC e q D) 50)).alloc (.cells (entC r d) 31)).alloc (.cells #[.string ⟨#[]⟩, .int .i64 0, .slice none 0 0, .slice none 0 0] 50)) := (((Below.refl _ _).alloc (Nat.le_refl _) _).alloc (by simp) _).alloc (by simp; omega) _
 have hx2 : (((w.alloc (.cells (rdbC e q D) 50)).alloc (.cells (entC r d) 31)).alloc (.cells #[.string ⟨#[]⟩, .int .i64 0, .slice none 0 0, .slice none 0 0] 50)).heap[w.heap.size]? = some (.cells (rdbC e q D) 50) := by rw [Below.heap_alloc _ _ _ (by simp; omega)]; exact second_blk w _ _
 have hx3 : (((w.alloc (.cells (rdbC e q D) 50)).alloc (.cells (entC r d) 31)).alloc (.cells #[.string ⟨#[]⟩, .int .i64 0, .slice none 0 0, .slice none 0 0] 50)).heap[w.heap.size + 1]? = some (.cells (entC r d) 31) := by rw [Below.heap_alloc _ _ _ (by simp)]; have := World.alloc_heap_new (w.alloc (.cells (rdbC e q D) 50)) (.cells (entC r d) 31); simpa using this
 have hz : canPut (((w.alloc (.cells (rdbC e q D) 50)).alloc (.cells (entC r d) 31)).alloc (.cells #[.string ⟨#[]⟩, .int .i64 0, .slice none 0 0, .slice none 0 0] 50)) (w.heap.size + 1 + 1) 0 4 = true := by simp [go_sem]
 have hW : (((w.alloc (.cells (rdbC e q D) 50)).alloc (.cells (entC r d) 31)).alloc (.cells #[.string ⟨#[]⟩, .int .i64 0, .slice none 0 0, .slice none 0 0] 50)).heap.size = w.heap.size + 1 + 1 + 1 := by simp
 go_enter Tryz.func38, Tryz.ntmps38
 go_wp2_with fail
 generalize (((w.alloc (.cells (rdbC e q D) 50)).alloc (.cells (entC r d) 31)).alloc (.cells #[.string ⟨#[]⟩, .int .i64 0, .slice none 0 0, .slice none 0 0] 50)) = W at *
 refine (valid24_b _ _ _ (he.later hB) false hv).mono ?_
 rintro x w1 ⟨rfl, hb1⟩
 have hs1 := hb1.size
 obtain ⟨hc, hf, hr, hlt⟩ := box_facts (still_blk hb1 hx2)
 obtain ⟨hc3, hf3, hr3, hlt3⟩ := box_facts (still_blk hb1 hx3)
 dsimp only
 have hlt4 : w.heap.size + 1 + 1 < w1.heap.size := by have := hb1.size; omega
 have hz1 := (bput hb1 (w.heap.size + 1 + 1) 0 4 (by omega)).trans hz
 have hne : w.heap.size + 1 + 1 ≠ w.heap.size := by omega
 go_wp2_with fail
 have hrow := row?_putRow_whole (w := w1) (rdbC_size e q D) hz1
 exact bodyPost_ret (results_row2 (by rfl) Tryz.underlying50 rfl (by kernel_rfl) rfl hrow) rfl ⟨rfl, Go.WW.Below.putRow (below_step hB hb1) (by omega)⟩
set_option maxRecDepth 100000 in
set_option maxHeartbeats 2000000 in
theorem put26_realm (e q : Sl) (D : Db) (r : ERaw) (d : Entry) (w : World) (he : EntAt w r d) (hv : entryOk d = true) (hre : ¬ d.name.realm = D.realm) : Calls Tryz.prog 38 #[.agg (rdbC e q D), .agg (entC r d)] w fun x w' => x = .returned (.tuple #[.agg (rdbC e q D), .int .i64 2]) ∧ Below w.heap.size w w' := by
 have hre' := str_ne _ _ hre
 clear hre
 have hB : Below w.heap.size w (((w.alloc (.cells (rdbC e q D) 50)).alloc (.cells (entC r d) 31)).alloc (.cells #[.string ⟨#[]⟩, .int .i64 0, .slice none 0 0, .slice none 0 0] 50)) := (((Below.refl _ _).alloc (Nat.le_refl _) _).alloc (by simp) _).alloc (by simp; omega) _
 have hx2 : (((w.alloc (.cells (rdbC e q D) 50)).alloc (.cells (entC r d) 31)).alloc (.cells #[.string ⟨#[]⟩, .int .i64 0, .slice none 0 0, .slice none 0 0] 50)).heap[w.heap.size]? = some (.cells (rdbC e q D) 50) := by rw [Below.heap_alloc _ _ _ (by simp; omega)]; exact second_blk w _ _
 have hx3 : (((w.alloc (.cells (rdbC e q D) 50)).alloc (.cells (entC r d) 31)).alloc (.cells #[.string ⟨#[]⟩, .int .i64 0, .slice none 0 0, .slice none 0 0] 50)).heap[w.heap.size + 1]? = some (.cells (entC r d) 31) := by rw [Below.heap_alloc _ _ _ (by simp)]; have := World.alloc_heap_new (w.alloc (.cells (rdbC e q D) 50)) (.cells (entC r d) 31); simpa using this
 have hz : canPut (((w.alloc (.cells (rdbC e q D) 50)).alloc (.cells (entC r d) 31)).alloc (.cells #[.string ⟨#[]⟩, .int .i64 0, .slice none 0 0, .slice none 0 0] 50)) (w.heap.size + 1 + 1) 0 4 = true := by simp [go_sem]
 have hW : (((w.alloc (.cells (rdbC e q D) 50)).alloc (.cells (entC r d) 31)).alloc (.cells #[.string ⟨#[]⟩, .int .i64 0, .slice none 0 0, .slice none 0 0] 50)).heap.size = w.heap.size + 1 + 1 + 1 := by simp
 go_enter Tryz.func38, Tryz.ntmps38
 go_wp2_with fail
 generalize (((w.alloc (.cells (rdbC e q D) 50)).alloc (.cells (entC r d) 31)).alloc (.cells #[.string ⟨#[]⟩, .int .i64 0, .slice none 0 0, .slice none 0 0] 50)) = W at *
 refine (valid24_b _ _ _ (he.later hB) true hv).mono ?_
 rintro x w1 ⟨rfl, hb1⟩
 have hs1 := hb1.size
 obtain ⟨hc, hf, hr, hlt⟩ := box_facts (still_blk hb1 hx2)
 obtain ⟨hc3, hf3, hr3, hlt3⟩ := box_facts (still_blk hb1 hx3)
 dsimp only
 have hlt4 : w.heap.size + 1 + 1 < w1.heap.size := by have := hb1.size; omega
 have hz1 := (bput hb1 (w.heap.size + 1 + 1) 0 4 (by omega)).trans hz
 have hne : w.heap.size + 1 + 1 ≠ w.heap.size := by omega
 go_wp2_with fail
 have hrow := row?_putRow_whole (w := w1) (rdbC_size e q D) hz1
 exact bodyPost_ret (results_row2 (by rfl) Tryz.underlying50 rfl (by kernel_rfl) rfl hrow) rfl ⟨rfl, Go.WW.Below.putRow (below_step hB hb1) (by omega)⟩
set_option maxRecDepth 100000 in
set_option maxHeartbeats 2000000 in
theorem put26_nopol (e q : Sl) (D : Db) (r : ERaw) (d : Entry) (w : World) (he : EntAt w r d) (hv : entryOk d = true) (hre : d.name.realm = D.realm) (hp : PolsAt w q.a D.policies) (hpe : ¬ d.policy = ⟨#[]⟩) (hi : idxOf (fun z => decide (z.name = d.policy)) D.policies = -1) : Calls Tryz.prog 38 #[.agg (rdbC e q D), .agg (entC r d)] w fun x w' => x = .returned (.tuple #[.agg (rdbC e q D), .int .i64 9]) ∧ Below w.heap.size w w' := by
 have hre' := str_eq _ _ hre
 have hpe' := str_ne _ _ hpe
 have hpe1 : ¬ d.policy.toList = [] := fun h => hpe (toList_inj (b := ⟨#[]⟩) (by rw [h, ByteArray.toList_eq]))
 have hpe2 : d.policy.toList.isEmpty = false := by cases h : d.policy.toList <;> simp_all
 clear hre hpe
 have hB : Below w.heap.size w (((w.alloc (.cells (rdbC e q D) 50)).alloc (.cells (entC r d) 31)).alloc (.cells #[.string ⟨#[]⟩, .int .i64 0, .slice none 0 0, .slice none 0 0] 50)) := (((Below.refl _ _).alloc (Nat.le_refl _) _).alloc (by simp) _).alloc (by simp; omega) _
 have hx2 : (((w.alloc (.cells (rdbC e q D) 50)).alloc (.cells (entC r d) 31)).alloc (.cells #[.string ⟨#[]⟩, .int .i64 0, .slice none 0 0, .slice none 0 0] 50)).heap[w.heap.size]? = some (.cells (rdbC e q D) 50) := by rw [Below.heap_alloc _ _ _ (by simp; omega)]; exact second_blk w _ _
 have hx3 : (((w.alloc (.cells (rdbC e q D) 50)).alloc (.cells (entC r d) 31)).alloc (.cells #[.string ⟨#[]⟩, .int .i64 0, .slice none 0 0, .slice none 0 0] 50)).heap[w.heap.size + 1]? = some (.cells (entC r d) 31) := by rw [Below.heap_alloc _ _ _ (by simp)]; have := World.alloc_heap_new (w.alloc (.cells (rdbC e q D) 50)) (.cells (entC r d) 31); simpa using this
 have hz : canPut (((w.alloc (.cells (rdbC e q D) 50)).alloc (.cells (entC r d) 31)).alloc (.cells #[.string ⟨#[]⟩, .int .i64 0, .slice none 0 0, .slice none 0 0] 50)) (w.heap.size + 1 + 1) 0 4 = true := by simp [go_sem]
 have hW : (((w.alloc (.cells (rdbC e q D) 50)).alloc (.cells (entC r d) 31)).alloc (.cells #[.string ⟨#[]⟩, .int .i64 0, .slice none 0 0, .slice none 0 0] 50)).heap.size = w.heap.size + 1 + 1 + 1 := by simp
 go_enter Tryz.func38, Tryz.ntmps38
 go_wp2_with fail
 generalize (((w.alloc (.cells (rdbC e q D) 50)).alloc (.cells (entC r d) 31)).alloc (.cells #[.string ⟨#[]⟩, .int .i64 0, .slice none 0 0, .slice none 0 0] 50)) = W at *
 refine (valid24_b _ _ _ (he.later hB) true hv).mono ?_
 rintro x w1 ⟨rfl, hb1⟩
 have hs1 := hb1.size
 obtain ⟨hc, hf, hr, hlt⟩ := box_facts (still_blk hb1 hx2)
 obtain ⟨hc3, hf3, hr3, hlt3⟩ := box_facts (still_blk hb1 hx3)
 dsimp only
 go_wp2_with fail
 refine (policy26_c _ _ _ _ _ (hp.later (below_step hB hb1))).mono ?_
 rintro x w2 ⟨rfl, hb2⟩
 rw [hi]
 have hb12 := below_step hb1 hb2
 clear hc hf hr hlt hc3 hf3 hr3 hlt3
 obtain ⟨hc, hf, hr, hlt⟩ := box_facts (still_blk hb12 hx2)
 obtain ⟨hc3, hf3, hr3, hlt3⟩ := box_facts (still_blk hb12 hx3)
 dsimp only
 have hlt4 : w.heap.size + 1 + 1 < w2.heap.size := by have := hb12.size; omega
 have hz1 := (bput hb12 (w.heap.size + 1 + 1) 0 4 (by omega)).trans hz
 have hne : w.heap.size + 1 + 1 ≠ w.heap.size := by omega
 go_wp2_with fail
 have hrow := row?_putRow_whole (w := w2) (rdbC_size e q D) hz1
 exact bodyPost_ret (results_row2 (by rfl) Tryz.underlying50 rfl (by kernel_rfl) rfl hrow) rfl ⟨rfl, Go.WW.Below.putRow (below_step hB hb12) (by omega)⟩
set_option maxRecDepth 100000 in
set_option maxHeartbeats 2000000 in
theorem put26_busy_none (e q : Sl) (D : Db) (r : ERaw) (d : Entry) (w : World) (he : EntAt w r d) (X : List EE) (hX : RowsX w e.a X) (hm : ∀ x ∈ X, EntAt w x.1 x.2) (hD : D.entries = X.map (·.2)) (hn : X.length ≤ 1000) (hv : entryOk d = true) (hre : d.name.realm = D.realm) (hpe : d.policy = ⟨#[]⟩) (at0 : Int) (hat : idxOf (fun z => samePrin z.name d.name) D.entries = at0) (jb : Nat) (hjX : jb < X.length) (hbz : bsy X[jb].2 d = true) (hpre : ∀ i (h : i < X.length), i < jb → bsy X[i].2 d = true → (i : Int) = at0) (hnat : ¬ (jb : Int) = at0)  : Calls Tryz.prog 38 #[.agg (rdbC e q D), .agg (entC r d)] w fun x w' => x = .returned (.tuple #[.agg (rdbC e q D), .int .i64 11]) ∧ Below w.heap.size w w' := by
 have hre' := str_eq _ _ hre
 clear hre
 have hlen : D.entries.length = X.length := by rw [hD]; simp
 have hE : EntsAt w e.a D.entries := by rw [hD]; exact hX.ents hm
 have hal : d.aliases.length ≤ 4294967000 := he.aliases.1
 clear hD
 have hpe1 : d.policy.toList = [] := by rw [hpe, ByteArray.toList_eq]
 have hpe2 : d.policy.toList.isEmpty = true := by rw [hpe1]; rfl
 clear hpe
 have hB : Below w.heap.size w (((w.alloc (.cells (rdbC e q D) 50)).alloc (.cells (entC r d) 31)).alloc (.cells #[.string ⟨#[]⟩, .int .i64 0, .slice none 0 0, .slice none 0 0] 50)) := (((Below.refl _ _).alloc (Nat.le_refl _) _).alloc (by simp) _).alloc (by simp; omega) _
 have hx2 : (((w.alloc (.cells (rdbC e q D) 50)).alloc (.cells (entC r d) 31)).alloc (.cells #[.string ⟨#[]⟩, .int .i64 0, .slice none 0 0, .slice none 0 0] 50)).heap[w.heap.size]? = some (.cells (rdbC e q D) 50) := by rw [Below.heap_alloc _ _ _ (by simp; omega)]; exact second_blk w _ _
 have hx3 : (((w.alloc (.cells (rdbC e q D) 50)).alloc (.cells (entC r d) 31)).alloc (.cells #[.string ⟨#[]⟩, .int .i64 0, .slice none 0 0, .slice none 0 0] 50)).heap[w.heap.size + 1]? = some (.cells (entC r d) 31) := by rw [Below.heap_alloc _ _ _ (by simp)]; have := World.alloc_heap_new (w.alloc (.cells (rdbC e q D) 50)) (.cells (entC r d) 31); simpa using this
 have hz : canPut (((w.alloc (.cells (rdbC e q D) 50)).alloc (.cells (entC r d) 31)).alloc (.cells #[.string ⟨#[]⟩, .int .i64 0, .slice none 0 0, .slice none 0 0] 50)) (w.heap.size + 1 + 1) 0 4 = true := by simp [go_sem]
 have hW : (((w.alloc (.cells (rdbC e q D) 50)).alloc (.cells (entC r d) 31)).alloc (.cells #[.string ⟨#[]⟩, .int .i64 0, .slice none 0 0, .slice none 0 0] 50)).heap.size = w.heap.size + 1 + 1 + 1 := by simp
 go_enter Tryz.func38, Tryz.ntmps38
 go_wp2_with fail
 generalize (((w.alloc (.cells (rdbC e q D) 50)).alloc (.cells (entC r d) 31)).alloc (.cells #[.string ⟨#[]⟩, .int .i64 0, .slice none 0 0, .slice none 0 0] 50)) = W at *
 refine (valid24_b _ _ _ (he.later hB) true hv).mono ?_
 rintro x w1 ⟨rfl, hb1⟩
 have hs1 := hb1.size
 obtain ⟨hc, hf, hr, hlt⟩ := box_facts (still_blk hb1 hx2)
 obtain ⟨hc3, hf3, hr3, hlt3⟩ := box_facts (still_blk hb1 hx3)
 dsimp only
 go_wp2_with fail
 refine (named26_c _ _ _ _ _ _ (hE.later (below_step hB hb1)) (he.name.later (below_step hB hb1))).mono ?_
 rintro x w4 ⟨rfl, hy4⟩
 rw [hat]
 have hb4 := below_step hb1 hy4
 clear hc hf hr hlt hc3 hf3 hr3 hlt3
 obtain ⟨hc, hf, hr, hlt⟩ := box_facts (still_blk hb4 hx2)
 obtain ⟨hc3, hf3, hr3, hlt3⟩ := box_facts (still_blk hb4 hx3)
 dsimp only
 go_wp2_with fail
 go_loopw [7] (fun iv wr => Below W.heap.size W wr ∧ ∃ k : Nat, k ≤ jb ∧ iv = .int .i64 k) (fun iv _ => D.entries.length - (intOf iv).toNat)
 case atStart => exact ⟨hb4, 0, Nat.zero_le _, rfl⟩
 case round =>
  obtain ⟨hbr, k, hk, rfl⟩ := hrel
  clear hc hf hr hlt hc3 hf3 hr3 hlt3
  obtain ⟨hc, hf, hr, hlt⟩ := box_facts (still_blk hbr hx2)
  obtain ⟨hc3, hf3, hr3, hlt3⟩ := box_facts (still_blk hbr hx3)
  have hBr := below_step hB hbr
  by_cases hkl : k < D.entries.length
  ·have hki : (k : Int) < (D.entries.length : Int) := by omega
   have hkX : k < X.length := by omega
   obtain ⟨b, o, ha, hb0⟩ : ∃ b o, e.a = some ⟨b, o, none⟩ ∧ b < w.heap.size := by rcases RowsAt.addr hX with h0 | h0; omega; exact h0
   have hrow0 : row? w b (o + k * 17) 17 = some (entC X[k].1 X[k].2) := (ha ▸ hX : RowsX w (some ⟨b, o, none⟩) X).at k hkX
   have hbw : b < wr.heap.size := Nat.lt_of_lt_of_le hb0 hBr.size
   have hrow := (row?_of_block (hBr.block b hb0) (o + k * 17) 17).trans hrow0
   have hxk := hm X[k] (List.getElem_mem hkX)
   have hjk : k < jb → bsy X[k].2 d = true → (k : Int) = at0 := fun h hq => hpre k hkX h hq
   have hjb : k = jb → bsy X[k].2 d = true := fun h => by subst h; exact hbz
   generalize X[k] = x at *
   go_wp2_with fail
   refine wp_region_later (Below.refl _ wr) (by kernel_rfl) (by kernel_rfl) ?_
   repeat (go_big_quiet_step ((go_at_call 68; rename_i xw; exact Calls.later_of (has26_c _ _ _ _ _ ((hxk.later hBr).later xw.b) ((he.name.later hBr).later xw.b)))))
   refine wpQuiet_nil ?_
   intro w5 hb5
   have hb5' := below_step hbr hb5
   clear hc hf hr hlt hc3 hf3 hr3 hlt3 hrow hbw
   obtain ⟨hc, hf, hr, hlt⟩ := box_facts (still_blk hb5' hx2)
   obtain ⟨hc3, hf3, hr3, hlt3⟩ := box_facts (still_blk hb5' hx3)
   obtain ⟨wo, hwo⟩ : ∃ wo : World, wo = wr := ⟨_, rfl⟩
   have HZ0 : Hid (hasN x.2 d.name = bsyTo x.2 d 0) := by simp [Hid, bsyTo]
   generalize hasN x.2 d.name = z0 at *
   go_wp2_with fail
   go_loopw [8, 9] (fun zv jv wr => Below W.heap.size W wr ∧ ∃ (j : Nat) (z : Bool), j ≤ d.aliases.length ∧ jv = .int .i64 j ∧ zv = .bool z ∧ Hid (z = bsyTo x.2 d j)) (fun _ jv _ => d.aliases.length - (intOf jv).toNat)
   case atStart => exact ⟨hb5', 0, z0, Nat.zero_le _, rfl, rfl, HZ0⟩
   case round =>
    obtain ⟨hbq, j, z, hj, rfl, rfl, hzz⟩ := hrel
    clear hc hf hr hlt hc3 hf3 hr3 hlt3
    obtain ⟨hc, hf, hr, hlt⟩ := box_facts (still_blk hbq hx2)
    obtain ⟨hc3, hf3, hr3, hlt3⟩ := box_facts (still_blk hbq hx3)
    have hBq := below_step hB hbq
    by_cases hjl : j < d.aliases.length
    ·have hji : (j : Int) < (d.aliases.length : Int) := by omega
     obtain ⟨b2, o2, t2, ha2, hr2, hp2⟩ := he.aliases.get j hjl
     have hb2w : b2 < w.heap.size := row?_lt hr2
     have hb2q := Nat.lt_of_lt_of_le hb2w hBq.size
     have hbq0 := Nat.lt_of_lt_of_le hb0 hBq.size
     have hrow2 := (row?_of_block (hBq.block b2 hb2w) (o2 + j * 2) 2).trans hr2
     have hrow1 := (row?_of_block (hBq.block b hb0) (o + k * 17) 17).trans hrow0
     have hst := bsy_step (x := x.2) hjl
     generalize d.aliases[j] = al at *
     cases z
     ·have HZ := Lib.hid (show hasN x.2 al = bsyTo x.2 d (j + 1) by rw [hst, ← hzz.out]; rfl)
      clear hst hzz
      go_wp2_with fail
      refine wp_region_later (Below.refl _ wr) (by kernel_rfl) (by kernel_rfl) ?_
      repeat (go_big_quiet_step ((go_at_call 68; rename_i xw; exact Calls.later_of (has26_c _ _ _ _ _ ((hxk.later hBq).later xw.b) ((hp2.later hBq).later xw.b)))))
      refine wpQuiet_nil ?_
      intro w6 hb6
      have hb6' := below_step hbq hb6
      generalize hasN x.2 al = z1 at *
      go_wp2_with fail
      go_roundw
      case rel => first | exact ⟨hb6', j + 1, _, by omega, by go_num, rfl, HZ.out⟩ | ((repeat apply Exists.intro); exact ⟨⟨hb6', j + 1, _, by omega, by go_num, rfl, HZ.out⟩, rfl⟩)
      case measure => simp [intOf]; omega
     ·have HZ := Lib.hid (show true = bsyTo x.2 d (j + 1) by rw [hst, ← hzz.out]; rfl)
      clear hst hzz
      go_wp2_with fail
      refine wp_region_later (Below.refl _ wr) (by kernel_rfl) (by kernel_rfl) ?_
      repeat (go_big_quiet_step (fail))
      refine wpQuiet_nil ?_
      intro w6 hb6
      have hb6' := below_step hbq hb6
      go_wp2_with fail
      go_roundw
      case rel => first | exact ⟨hb6', j + 1, _, by omega, by go_num, rfl, HZ.out⟩ | ((repeat apply Exists.intro); exact ⟨⟨hb6', j + 1, _, by omega, by go_num, rfl, HZ.out⟩, rfl⟩)
      case measure => simp [intOf]; omega
    ·have HZ := Lib.hid (show z = bsy x.2 d by rw [hzz.out, bsy_end (by omega)])
     clear hzz
     by_cases hkj : k = jb
     ·have hzt : z = true := by rw [HZ.out]; exact hjb hkj
      subst hzt
      have hne9 : ((k : Int) != (at0)) = true := by rw [hkj]; simpa using hnat
      clear hkj hjb hjk hpre hbz hnat
      have hlt4 : w.heap.size + 1 + 1 < wr.heap.size := by have := hbq.size; omega
      have hz1 := (bput hbq (w.heap.size + 1 + 1) 0 4 (by omega)).trans hz
      have hne : w.heap.size + 1 + 1 ≠ w.heap.size := by omega
      go_wp2_with fail
      have hrow := row?_putRow_whole (w := wr) (rdbC_size e q D) hz1
      exact bodyPost_ret (results_row2 (by rfl) Tryz.underlying50 rfl (by kernel_rfl) rfl hrow) rfl ⟨rfl, Go.WW.Below.putRow (below_step hB hbq) (by omega)⟩
     ·cases z
      ·have hkj2 : k < jb := by omega
       go_wp2_with fail
       go_roundw
       case rel => first | exact ⟨hbq, k + 1, by omega, by go_num⟩ | ((repeat apply Exists.intro); exact ⟨⟨hbq, k + 1, by omega, by go_num⟩, rfl⟩)
       case measure => simp [intOf]; omega
      ·have hkj2 : k < jb := by omega
       have hne9 : ((k : Int) != (at0)) = false := by simpa using hjk hkj2 HZ.out.symm
       go_wp2_with fail
       go_roundw
       case rel => first | exact ⟨hbq, k + 1, by omega, by go_num⟩ | ((repeat apply Exists.intro); exact ⟨⟨hbq, k + 1, by omega, by go_num⟩, rfl⟩)
       case measure => simp [intOf]; omega
  ·exfalso; omega
set_option maxRecDepth 100000 in
set_option maxHeartbeats 2000000 in
theorem put26_busy_some (e q : Sl) (D : Db) (r : ERaw) (d : Entry) (w : World) (he : EntAt w r d) (X : List EE) (hX : RowsX w e.a X) (hm : ∀ x ∈ X, EntAt w x.1 x.2) (hD : D.entries = X.map (·.2)) (hn : X.length ≤ 1000) (hv : entryOk d = true) (hre : d.name.realm = D.realm) (hp : PolsAt w q.a D.policies) (hpe : ¬ d.policy = ⟨#[]⟩) (jp : Nat) (hi : idxOf (fun z => decide (z.name = d.policy)) D.policies = (jp : Int)) (at0 : Int) (hat : idxOf (fun z => samePrin z.name d.name) D.entries = at0) (jb : Nat) (hjX : jb < X.length) (hbz : bsy X[jb].2 d = true) (hpre : ∀ i (h : i < X.length), i < jb → bsy X[i].2 d = true → (i : Int) = at0) (hnat : ¬ (jb : Int) = at0)  : Calls Tryz.prog 38 #[.agg (rdbC e q D), .agg (entC r d)] w fun x w' => x = .returned (.tuple #[.agg (rdbC e q D), .int .i64 11]) ∧ Below w.heap.size w w' := by
 have hre' := str_eq _ _ hre
 clear hre
 have hlen : D.entries.length = X.length := by rw [hD]; simp
 have hE : EntsAt w e.a D.entries := by rw [hD]; exact hX.ents hm
 have hal : d.aliases.length ≤ 4294967000 := he.aliases.1
 clear hD
 have hpe' := str_ne _ _ hpe
 have hpe1 : ¬ d.policy.toList = [] := fun h => hpe (toList_inj (b := ⟨#[]⟩) (by rw [h, ByteArray.toList_eq]))
 have hpe2 : d.policy.toList.isEmpty = false := by cases h : d.policy.toList <;> simp_all
 clear hpe
 have hB : Below w.heap.size w (((w.alloc (.cells (rdbC e q D) 50)).alloc (.cells (entC r d) 31)).alloc (.cells #[.string ⟨#[]⟩, .int .i64 0, .slice none 0 0, .slice none 0 0] 50)) := (((Below.refl _ _).alloc (Nat.le_refl _) _).alloc (by simp) _).alloc (by simp; omega) _
 have hx2 : (((w.alloc (.cells (rdbC e q D) 50)).alloc (.cells (entC r d) 31)).alloc (.cells #[.string ⟨#[]⟩, .int .i64 0, .slice none 0 0, .slice none 0 0] 50)).heap[w.heap.size]? = some (.cells (rdbC e q D) 50) := by rw [Below.heap_alloc _ _ _ (by simp; omega)]; exact second_blk w _ _
 have hx3 : (((w.alloc (.cells (rdbC e q D) 50)).alloc (.cells (entC r d) 31)).alloc (.cells #[.string ⟨#[]⟩, .int .i64 0, .slice none 0 0, .slice none 0 0] 50)).heap[w.heap.size + 1]? = some (.cells (entC r d) 31) := by rw [Below.heap_alloc _ _ _ (by simp)]; have := World.alloc_heap_new (w.alloc (.cells (rdbC e q D) 50)) (.cells (entC r d) 31); simpa using this
 have hz : canPut (((w.alloc (.cells (rdbC e q D) 50)).alloc (.cells (entC r d) 31)).alloc (.cells #[.string ⟨#[]⟩, .int .i64 0, .slice none 0 0, .slice none 0 0] 50)) (w.heap.size + 1 + 1) 0 4 = true := by simp [go_sem]
 have hW : (((w.alloc (.cells (rdbC e q D) 50)).alloc (.cells (entC r d) 31)).alloc (.cells #[.string ⟨#[]⟩, .int .i64 0, .slice none 0 0, .slice none 0 0] 50)).heap.size = w.heap.size + 1 + 1 + 1 := by simp
 go_enter Tryz.func38, Tryz.ntmps38
 go_wp2_with fail
 generalize (((w.alloc (.cells (rdbC e q D) 50)).alloc (.cells (entC r d) 31)).alloc (.cells #[.string ⟨#[]⟩, .int .i64 0, .slice none 0 0, .slice none 0 0] 50)) = W at *
 refine (valid24_b _ _ _ (he.later hB) true hv).mono ?_
 rintro x w1 ⟨rfl, hb1⟩
 have hs1 := hb1.size
 obtain ⟨hc, hf, hr, hlt⟩ := box_facts (still_blk hb1 hx2)
 obtain ⟨hc3, hf3, hr3, hlt3⟩ := box_facts (still_blk hb1 hx3)
 dsimp only
 go_wp2_with fail
 refine (policy26_c _ _ _ _ _ (hp.later (below_step hB hb1))).mono ?_
 rintro x w2 ⟨rfl, hb2⟩
 rw [hi]
 have hb12 := below_step hb1 hb2
 clear hc hf hr hlt hc3 hf3 hr3 hlt3
 obtain ⟨hc, hf, hr, hlt⟩ := box_facts (still_blk hb12 hx2)
 obtain ⟨hc3, hf3, hr3, hlt3⟩ := box_facts (still_blk hb12 hx3)
 dsimp only
 go_wp2_with fail
 refine (named26_c _ _ _ _ _ _ (hE.later (below_step hB hb12)) (he.name.later (below_step hB hb12))).mono ?_
 rintro x w4 ⟨rfl, hy4⟩
 rw [hat]
 have hb4 := below_step hb12 hy4
 clear hc hf hr hlt hc3 hf3 hr3 hlt3
 obtain ⟨hc, hf, hr, hlt⟩ := box_facts (still_blk hb4 hx2)
 obtain ⟨hc3, hf3, hr3, hlt3⟩ := box_facts (still_blk hb4 hx3)
 dsimp only
 go_wp2_with fail
 go_loopw [7] (fun iv wr => Below W.heap.size W wr ∧ ∃ k : Nat, k ≤ jb ∧ iv = .int .i64 k) (fun iv _ => D.entries.length - (intOf iv).toNat)
 case atStart => exact ⟨hb4, 0, Nat.zero_le _, rfl⟩
 case round =>
  obtain ⟨hbr, k, hk, rfl⟩ := hrel
  clear hc hf hr hlt hc3 hf3 hr3 hlt3
  obtain ⟨hc, hf, hr, hlt⟩ := box_facts (still_blk hbr hx2)
  obtain ⟨hc3, hf3, hr3, hlt3⟩ := box_facts (still_blk hbr hx3)
  have hBr := below_step hB hbr
  by_cases hkl : k < D.entries.length
  ·have hki : (k : Int) < (D.entries.length : Int) := by omega
   have hkX : k < X.length := by omega
   obtain ⟨b, o, ha, hb0⟩ : ∃ b o, e.a = some ⟨b, o, none⟩ ∧ b < w.heap.size := by rcases RowsAt.addr hX with h0 | h0; omega; exact h0
   have hrow0 : row? w b (o + k * 17) 17 = some (entC X[k].1 X[k].2) := (ha ▸ hX : RowsX w (some ⟨b, o, none⟩) X).at k hkX
   have hbw : b < wr.heap.size := Nat.lt_of_lt_of_le hb0 hBr.size
   have hrow := (row?_of_block (hBr.block b hb0) (o + k * 17) 17).trans hrow0
   have hxk := hm X[k] (List.getElem_mem hkX)
   have hjk : k < jb → bsy X[k].2 d = true → (k : Int) = at0 := fun h hq => hpre k hkX h hq
   have hjb : k = jb → bsy X[k].2 d = true := fun h => by subst h; exact hbz
   generalize X[k] = x at *
   go_wp2_with fail
   refine wp_region_later (Below.refl _ wr) (by kernel_rfl) (by kernel_rfl) ?_
   repeat (go_big_quiet_step ((go_at_call 68; rename_i xw; exact Calls.later_of (has26_c _ _ _ _ _ ((hxk.later hBr).later xw.b) ((he.name.later hBr).later xw.b)))))
   refine wpQuiet_nil ?_
   intro w5 hb5
   have hb5' := below_step hbr hb5
   clear hc hf hr hlt hc3 hf3 hr3 hlt3 hrow hbw
   obtain ⟨hc, hf, hr, hlt⟩ := box_facts (still_blk hb5' hx2)
   obtain ⟨hc3, hf3, hr3, hlt3⟩ := box_facts (still_blk hb5' hx3)
   obtain ⟨wo, hwo⟩ : ∃ wo : World, wo = wr := ⟨_, rfl⟩
   have HZ0 : Hid (hasN x.2 d.name = bsyTo x.2 d 0) := by simp [Hid, bsyTo]
   generalize hasN x.2 d.name = z0 at *
   go_wp2_with fail
   go_loopw [8, 9] (fun zv jv wr => Below W.heap.size W wr ∧ ∃ (j : Nat) (z : Bool), j ≤ d.aliases.length ∧ jv = .int .i64 j ∧ zv = .bool z ∧ Hid (z = bsyTo x.2 d j)) (fun _ jv _ => d.aliases.length - (intOf jv).toNat)
   case atStart => exact ⟨hb5', 0, z0, Nat.zero_le _, rfl, rfl, HZ0⟩
   case round =>
    obtain ⟨hbq, j, z, hj, rfl, rfl, hzz⟩ := hrel
    clear hc hf hr hlt hc3 hf3 hr3 hlt3
    obtain ⟨hc, hf, hr, hlt⟩ := box_facts (still_blk hbq hx2)
    obtain ⟨hc3, hf3, hr3, hlt3⟩ := box_facts (still_blk hbq hx3)
    have hBq := below_step hB hbq
    by_cases hjl : j < d.aliases.length
    ·have hji : (j : Int) < (d.aliases.length : Int) := by omega
     obtain ⟨b2, o2, t2, ha2, hr2, hp2⟩ := he.aliases.get j hjl
     have hb2w : b2 < w.heap.size := row?_lt hr2
     have hb2q := Nat.lt_of_lt_of_le hb2w hBq.size
     have hbq0 := Nat.lt_of_lt_of_le hb0 hBq.size
     have hrow2 := (row?_of_block (hBq.block b2 hb2w) (o2 + j * 2) 2).trans hr2
     have hrow1 := (row?_of_block (hBq.block b hb0) (o + k * 17) 17).trans hrow0
     have hst := bsy_step (x := x.2) hjl
     generalize d.aliases[j] = al at *
     cases z
     ·have HZ := Lib.hid (show hasN x.2 al = bsyTo x.2 d (j + 1) by rw [hst, ← hzz.out]; rfl)
      clear hst hzz
      go_wp2_with fail
      refine wp_region_later (Below.refl _ wr) (by kernel_rfl) (by kernel_rfl) ?_
      repeat (go_big_quiet_step ((go_at_call 68; rename_i xw; exact Calls.later_of (has26_c _ _ _ _ _ ((hxk.later hBq).later xw.b) ((hp2.later hBq).later xw.b)))))
      refine wpQuiet_nil ?_
      intro w6 hb6
      have hb6' := below_step hbq hb6
      generalize hasN x.2 al = z1 at *
      go_wp2_with fail
      go_roundw
      case rel => first | exact ⟨hb6', j + 1, _, by omega, by go_num, rfl, HZ.out⟩ | ((repeat apply Exists.intro); exact ⟨⟨hb6', j + 1, _, by omega, by go_num, rfl, HZ.out⟩, rfl⟩)
      case measure => simp [intOf]; omega
     ·have HZ := Lib.hid (show true = bsyTo x.2 d (j + 1) by rw [hst, ← hzz.out]; rfl)
      clear hst hzz
      go_wp2_with fail
      refine wp_region_later (Below.refl _ wr) (by kernel_rfl) (by kernel_rfl) ?_
      repeat (go_big_quiet_step (fail))
      refine wpQuiet_nil ?_
      intro w6 hb6
      have hb6' := below_step hbq hb6
      go_wp2_with fail
      go_roundw
      case rel => first | exact ⟨hb6', j + 1, _, by omega, by go_num, rfl, HZ.out⟩ | ((repeat apply Exists.intro); exact ⟨⟨hb6', j + 1, _, by omega, by go_num, rfl, HZ.out⟩, rfl⟩)
      case measure => simp [intOf]; omega
    ·have HZ := Lib.hid (show z = bsy x.2 d by rw [hzz.out, bsy_end (by omega)])
     clear hzz
     by_cases hkj : k = jb
     ·have hzt : z = true := by rw [HZ.out]; exact hjb hkj
      subst hzt
      have hne9 : ((k : Int) != (at0)) = true := by rw [hkj]; simpa using hnat
      clear hkj hjb hjk hpre hbz hnat
      have hlt4 : w.heap.size + 1 + 1 < wr.heap.size := by have := hbq.size; omega
      have hz1 := (bput hbq (w.heap.size + 1 + 1) 0 4 (by omega)).trans hz
      have hne : w.heap.size + 1 + 1 ≠ w.heap.size := by omega
      go_wp2_with fail
      have hrow := row?_putRow_whole (w := wr) (rdbC_size e q D) hz1
      exact bodyPost_ret (results_row2 (by rfl) Tryz.underlying50 rfl (by kernel_rfl) rfl hrow) rfl ⟨rfl, Go.WW.Below.putRow (below_step hB hbq) (by omega)⟩
     ·cases z
      ·have hkj2 : k < jb := by omega
       go_wp2_with fail
       go_roundw
       case rel => first | exact ⟨hbq, k + 1, by omega, by go_num⟩ | ((repeat apply Exists.intro); exact ⟨⟨hbq, k + 1, by omega, by go_num⟩, rfl⟩)
       case measure => simp [intOf]; omega
      ·have hkj2 : k < jb := by omega
       have hne9 : ((k : Int) != (at0)) = false := by simpa using hjk hkj2 HZ.out.symm
       go_wp2_with fail
       go_roundw
       case rel => first | exact ⟨hbq, k + 1, by omega, by go_num⟩ | ((repeat apply Exists.intro); exact ⟨⟨hbq, k + 1, by omega, by go_num⟩, rfl⟩)
       case measure => simp [intOf]; omega
  ·exfalso; omega
set_option maxRecDepth 100000 in
set_option maxHeartbeats 2000000 in
theorem put26_new_none (e q : Sl) (D : Db) (r : ERaw) (d : Entry) (w : World) (he : EntAt w r d) (X : List EE) (hX : RowsX w e.a X) (hm : ∀ x ∈ X, EntAt w x.1 x.2) (hD : D.entries = X.map (·.2)) (hn : X.length ≤ 1000) (hv : entryOk d = true) (hre : d.name.realm = D.realm) (hpe : d.policy = ⟨#[]⟩) (hat : idxOf (fun z => samePrin z.name d.name) D.entries = -1) (hnb : ∀ i (h : i < X.length), bsy X[i].2 d = true → (i : Int) = -1) (hs0 : 0 ≤ D.serial) (hs1 : D.serial < 1000000) : Calls Tryz.prog 38 #[.agg (rdbC e q D), .agg (entC r d)] w (OutE q D (insertBy cmpPrin nameX (r, d) X) w) := by
 have hre' := str_eq _ _ hre
 clear hre
 have hlen : D.entries.length = X.length := by rw [hD]; simp
 have hE : EntsAt w e.a D.entries := by rw [hD]; exact hX.ents hm
 have hal : d.aliases.length ≤ 4294967000 := he.aliases.1
 clear hD
 have hpe1 : d.policy.toList = [] := by rw [hpe, ByteArray.toList_eq]
 have hpe2 : d.policy.toList.isEmpty = true := by rw [hpe1]; rfl
 clear hpe
 have hB : Below w.heap.size w (((w.alloc (.cells (rdbC e q D) 50)).alloc (.cells (entC r d) 31)).alloc (.cells #[.string ⟨#[]⟩, .int .i64 0, .slice none 0 0, .slice none 0 0] 50)) := (((Below.refl _ _).alloc (Nat.le_refl _) _).alloc (by simp) _).alloc (by simp; omega) _
 have hx2 : (((w.alloc (.cells (rdbC e q D) 50)).alloc (.cells (entC r d) 31)).alloc (.cells #[.string ⟨#[]⟩, .int .i64 0, .slice none 0 0, .slice none 0 0] 50)).heap[w.heap.size]? = some (.cells (rdbC e q D) 50) := by rw [Below.heap_alloc _ _ _ (by simp; omega)]; exact second_blk w _ _
 have hx3 : (((w.alloc (.cells (rdbC e q D) 50)).alloc (.cells (entC r d) 31)).alloc (.cells #[.string ⟨#[]⟩, .int .i64 0, .slice none 0 0, .slice none 0 0] 50)).heap[w.heap.size + 1]? = some (.cells (entC r d) 31) := by rw [Below.heap_alloc _ _ _ (by simp)]; have := World.alloc_heap_new (w.alloc (.cells (rdbC e q D) 50)) (.cells (entC r d) 31); simpa using this
 have hz : canPut (((w.alloc (.cells (rdbC e q D) 50)).alloc (.cells (entC r d) 31)).alloc (.cells #[.string ⟨#[]⟩, .int .i64 0, .slice none 0 0, .slice none 0 0] 50)) (w.heap.size + 1 + 1) 0 4 = true := by simp [go_sem]
 have hW : (((w.alloc (.cells (rdbC e q D) 50)).alloc (.cells (entC r d) 31)).alloc (.cells #[.string ⟨#[]⟩, .int .i64 0, .slice none 0 0, .slice none 0 0] 50)).heap.size = w.heap.size + 1 + 1 + 1 := by simp
 go_enter Tryz.func38, Tryz.ntmps38
 go_wp2_with fail
 generalize (((w.alloc (.cells (rdbC e q D) 50)).alloc (.cells (entC r d) 31)).alloc (.cells #[.string ⟨#[]⟩, .int .i64 0, .slice none 0 0, .slice none 0 0] 50)) = W at *
 refine (valid24_b _ _ _ (he.later hB) true hv).mono ?_
 rintro x w1 ⟨rfl, hb1⟩
 have hs1 := hb1.size
 obtain ⟨hc, hf, hr, hlt⟩ := box_facts (still_blk hb1 hx2)
 obtain ⟨hc3, hf3, hr3, hlt3⟩ := box_facts (still_blk hb1 hx3)
 dsimp only
 go_wp2_with fail
 refine (named26_c _ _ _ _ _ _ (hE.later (below_step hB hb1)) (he.name.later (below_step hB hb1))).mono ?_
 rintro x w4 ⟨rfl, hy4⟩
 rw [hat]
 have hb4 := below_step hb1 hy4
 clear hc hf hr hlt hc3 hf3 hr3 hlt3
 obtain ⟨hc, hf, hr, hlt⟩ := box_facts (still_blk hb4 hx2)
 obtain ⟨hc3, hf3, hr3, hlt3⟩ := box_facts (still_blk hb4 hx3)
 dsimp only
 go_wp2_with fail
 go_loopw [7] (fun iv wr => Below W.heap.size W wr ∧ ∃ k : Nat, k ≤ D.entries.length ∧ iv = .int .i64 k) (fun iv _ => D.entries.length - (intOf iv).toNat)
 case atStart => exact ⟨hb4, 0, Nat.zero_le _, rfl⟩
 case round =>
  obtain ⟨hbr, k, hk, rfl⟩ := hrel
  clear hc hf hr hlt hc3 hf3 hr3 hlt3
  obtain ⟨hc, hf, hr, hlt⟩ := box_facts (still_blk hbr hx2)
  obtain ⟨hc3, hf3, hr3, hlt3⟩ := box_facts (still_blk hbr hx3)
  have hBr := below_step hB hbr
  by_cases hkl : k < D.entries.length
  ·have hki : (k : Int) < (D.entries.length : Int) := by omega
   have hkX : k < X.length := by omega
   obtain ⟨b, o, ha, hb0⟩ : ∃ b o, e.a = some ⟨b, o, none⟩ ∧ b < w.heap.size := by rcases RowsAt.addr hX with h0 | h0; omega; exact h0
   have hrow0 : row? w b (o + k * 17) 17 = some (entC X[k].1 X[k].2) := (ha ▸ hX : RowsX w (some ⟨b, o, none⟩) X).at k hkX
   have hbw : b < wr.heap.size := Nat.lt_of_lt_of_le hb0 hBr.size
   have hrow := (row?_of_block (hBr.block b hb0) (o + k * 17) 17).trans hrow0
   have hxk := hm X[k] (List.getElem_mem hkX)
   have hnk : bsy X[k].2 d = true → (k : Int) = -1 := hnb k hkX
   generalize X[k] = x at *
   go_wp2_with fail
   refine wp_region_later (Below.refl _ wr) (by kernel_rfl) (by kernel_rfl) ?_
   repeat (go_big_quiet_step ((go_at_call 68; rename_i xw; exact Calls.later_of (has26_c _ _ _ _ _ ((hxk.later hBr).later xw.b) ((he.name.later hBr).later xw.b)))))
   refine wpQuiet_nil ?_
   intro w5 hb5
   have hb5' := below_step hbr hb5
   clear hc hf hr hlt hc3 hf3 hr3 hlt3 hrow hbw
   obtain ⟨hc, hf, hr, hlt⟩ := box_facts (still_blk hb5' hx2)
   obtain ⟨hc3, hf3, hr3, hlt3⟩ := box_facts (still_blk hb5' hx3)
   obtain ⟨wo, hwo⟩ : ∃ wo : World, wo = wr := ⟨_, rfl⟩
   have HZ0 : Hid (hasN x.2 d.name = bsyTo x.2 d 0) := by simp [Hid, bsyTo]
   generalize hasN x.2 d.name = z0 at *
   go_wp2_with fail
   go_loopw [8, 9] (fun zv jv wr => Below W.heap.size W wr ∧ ∃ (j : Nat) (z : Bool), j ≤ d.aliases.length ∧ jv = .int .i64 j ∧ zv = .bool z ∧ Hid (z = bsyTo x.2 d j)) (fun _ jv _ => d.aliases.length - (intOf jv).toNat)
   case atStart => exact ⟨hb5', 0, z0, Nat.zero_le _, rfl, rfl, HZ0⟩
   case round =>
    obtain ⟨hbq, j, z, hj, rfl, rfl, hzz⟩ := hrel
    clear hc hf hr hlt hc3 hf3 hr3 hlt3
    obtain ⟨hc, hf, hr, hlt⟩ := box_facts (still_blk hbq hx2)
    obtain ⟨hc3, hf3, hr3, hlt3⟩ := box_facts (still_blk hbq hx3)
    have hBq := below_step hB hbq
    by_cases hjl : j < d.aliases.length
    ·have hji : (j : Int) < (d.aliases.length : Int) := by omega
     obtain ⟨b2, o2, t2, ha2, hr2, hp2⟩ := he.aliases.get j hjl
     have hb2w : b2 < w.heap.size := row?_lt hr2
     have hb2q := Nat.lt_of_lt_of_le hb2w hBq.size
     have hbq0 := Nat.lt_of_lt_of_le hb0 hBq.size
     have hrow2 := (row?_of_block (hBq.block b2 hb2w) (o2 + j * 2) 2).trans hr2
     have hrow1 := (row?_of_block (hBq.block b hb0) (o + k * 17) 17).trans hrow0
     have hst := bsy_step (x := x.2) hjl
     generalize d.aliases[j] = al at *
     cases z
     ·have HZ := Lib.hid (show hasN x.2 al = bsyTo x.2 d (j + 1) by rw [hst, ← hzz.out]; rfl)
      clear hst hzz
      go_wp2_with fail
      refine wp_region_later (Below.refl _ wr) (by kernel_rfl) (by kernel_rfl) ?_
      repeat (go_big_quiet_step ((go_at_call 68; rename_i xw; exact Calls.later_of (has26_c _ _ _ _ _ ((hxk.later hBq).later xw.b) ((hp2.later hBq).later xw.b)))))
      refine wpQuiet_nil ?_
      intro w6 hb6
      have hb6' := below_step hbq hb6
      generalize hasN x.2 al = z1 at *
      go_wp2_with fail
      go_roundw
      case rel => first | exact ⟨hb6', j + 1, _, by omega, by go_num, rfl, HZ.out⟩ | ((repeat apply Exists.intro); exact ⟨⟨hb6', j + 1, _, by omega, by go_num, rfl, HZ.out⟩, rfl⟩)
      case measure => simp [intOf]; omega
     ·have HZ := Lib.hid (show true = bsyTo x.2 d (j + 1) by rw [hst, ← hzz.out]; rfl)
      clear hst hzz
      go_wp2_with fail
      refine wp_region_later (Below.refl _ wr) (by kernel_rfl) (by kernel_rfl) ?_
      repeat (go_big_quiet_step (fail))
      refine wpQuiet_nil ?_
      intro w6 hb6
      have hb6' := below_step hbq hb6
      go_wp2_with fail
      go_roundw
      case rel => first | exact ⟨hb6', j + 1, _, by omega, by go_num, rfl, HZ.out⟩ | ((repeat apply Exists.intro); exact ⟨⟨hb6', j + 1, _, by omega, by go_num, rfl, HZ.out⟩, rfl⟩)
      case measure => simp [intOf]; omega
    ·have HZ := Lib.hid (show z = bsy x.2 d by rw [hzz.out, bsy_end (by omega)])
     clear hzz
     cases z
     ·have hz9 : true = true := rfl
      go_wp2_with fail
      go_roundw
      case rel => first | exact ⟨hbq, k + 1, by omega, by go_num⟩ | ((repeat apply Exists.intro); exact ⟨⟨hbq, k + 1, by omega, by go_num⟩, rfl⟩)
      case measure => simp [intOf]; omega
     ·have hne9 : ((k : Int) != (-1)) = false := by simpa using hnk HZ.out.symm
      go_wp2_with fail
      go_roundw
      case rel => first | exact ⟨hbq, k + 1, by omega, by go_num⟩ | ((repeat apply Exists.intro); exact ⟨⟨hbq, k + 1, by omega, by go_num⟩, rfl⟩)
      case measure => simp [intOf]; omega
  ·obtain rfl : k = D.entries.length := by omega
   have hl4096 : ¬ (4096 : Int) ≤ (D.entries.length : Int) := by omega
   have hrem : (D.serial + 1).tmod 4611686018427387904 = D.serial + 1 := Int.tmod_eq_of_lt (by omega) (by omega)
   have hne1 : w.heap.size + 1 ≠ w.heap.size := by omega
   have hne2 : w.heap.size + 1 + 1 ≠ w.heap.size := by omega
   have hv2 := still_blk hbr hx2
   have hv3 := still_blk hbr hx3
   have hvz := (bput hbr (w.heap.size + 1 + 1) 0 4 (by omega)).trans hz
   have hBV := hBr
   have hsV : w.heap.size + 1 + 1 < wr.heap.size := by have := hbr.size; omega
   have hcon := insert26_c e.a e.cap X r d wr (hX.later hBr) (fun x hx => (hm x hx).later hBr) (he.later hBr) (by omega)
   go_wp2_with fail
   refine hcon.mono ?_
   generalize wr = V at *
   rintro x w7 ⟨s7, rfl, hb7, hd7⟩
   generalize hX7 : insertBy cmpPrin nameX (r, d) X = X7 at *
   have hy2 := still_blk hb7 hv2
   have hs7 := hb7.size
   clear hc hf hr hlt hc3 hf3 hr3 hlt3
   obtain ⟨hc, hf, hr, hlt⟩ := box_facts hy2
   have hset := setCell_blk (o := 1) (.int .i64 (D.serial + 1)) (setCell_blk (o := 2) (.slice s7.a X7.length s7.cap) hy2)
   have hrw0 : row? ((w7.setCell ⟨w.heap.size, 2, none⟩ (.slice s7.a X7.length s7.cap)).setCell ⟨w.heap.size, 1, none⟩ (.int .i64 (D.serial + 1))) w.heap.size 0 4 = some (rdbC s7 q { D with entries := X7.map (·.2), serial := D.serial + 1 }) := (row?_of_cells hset).trans (by rw [show X7.length = (X7.map (·.2)).length from (List.length_map _).symm]; kernel_rfl)
   have hcp : canPut ((w7.setCell ⟨w.heap.size, 2, none⟩ (.slice s7.a X7.length s7.cap)).setCell ⟨w.heap.size, 1, none⟩ (.int .i64 (D.serial + 1))) (w.heap.size + 1 + 1) 0 4 = true := (canPut_setCell_other hne2).trans ((canPut_setCell_other hne2).trans ((bput hb7 (w.heap.size + 1 + 1) 0 4 hsV).trans hvz))
   clear hr
   dsimp only
   go_wp2_with fail
   have hrow := row?_putRow_whole (rdbC_size s7 q { D with entries := X7.map (·.2), serial := D.serial + 1 }) hcp
   refine bodyPost_ret (results_row2 (by rfl) Tryz.underlying50 rfl (by kernel_rfl) rfl hrow) rfl ⟨s7, rfl, Go.WW.Below.putRow (((below_step hBV hb7).setCell (by simp) _).setCell (by simp) _) (by omega), fun y hy => hd7 _ (fun g hg => ?_)⟩
   have hg1 := hg.1
   have hg2 := hg.2
   rw [hy g ⟨by omega, by rw [putRow_size]; simp only [World.setCell, Array.size_modify]; omega⟩, putRow_other (by omega), Below.heap_setCell _ _ _ _ (show g ≠ w.heap.size by omega), Below.heap_setCell _ _ _ _ (show g ≠ w.heap.size by omega)]
set_option maxRecDepth 100000 in
set_option maxHeartbeats 2000000 in
theorem put26_new_some (e q : Sl) (D : Db) (r : ERaw) (d : Entry) (w : World) (he : EntAt w r d) (X : List EE) (hX : RowsX w e.a X) (hm : ∀ x ∈ X, EntAt w x.1 x.2) (hD : D.entries = X.map (·.2)) (hn : X.length ≤ 1000) (hv : entryOk d = true) (hre : d.name.realm = D.realm) (hp : PolsAt w q.a D.policies) (hpe : ¬ d.policy = ⟨#[]⟩) (jp : Nat) (hi : idxOf (fun z => decide (z.name = d.policy)) D.policies = (jp : Int)) (hat : idxOf (fun z => samePrin z.name d.name) D.entries = -1) (hnb : ∀ i (h : i < X.length), bsy X[i].2 d = true → (i : Int) = -1) (hs0 : 0 ≤ D.serial) (hs1 : D.serial < 1000000) : Calls Tryz.prog 38 #[.agg (rdbC e q D), .agg (entC r d)] w (OutE q D (insertBy cmpPrin nameX (r, d) X) w) := by
 have hre' := str_eq _ _ hre
 clear hre
 have hlen : D.entries.length = X.length := by rw [hD]; simp
 have hE : EntsAt w e.a D.entries := by rw [hD]; exact hX.ents hm
 have hal : d.aliases.length ≤ 4294967000 := he.aliases.1
 clear hD
 have hpe' := str_ne _ _ hpe
 have hpe1 : ¬ d.policy.toList = [] := fun h => hpe (toList_inj (b := ⟨#[]⟩) (by rw [h, ByteArray.toList_eq]))
 have hpe2 : d.policy.toList.isEmpty = false := by cases h : d.policy.toList <;> simp_all
 clear hpe
 have hB : Below w.heap.size w (((w.alloc (.cells (rdbC e q D) 50)).alloc (.cells (entC r d) 31)).alloc (.cells #[.string ⟨#[]⟩, .int .i64 0, .slice none 0 0, .slice none 0 0] 50)) := (((Below.refl _ _).alloc (Nat.le_refl _) _).alloc (by simp) _).alloc (by simp; omega) _
 have hx2 : (((w.alloc (.cells (rdbC e q D) 50)).alloc (.cells (entC r d) 31)).alloc (.cells #[.string ⟨#[]⟩, .int .i64 0, .slice none 0 0, .slice none 0 0] 50)).heap[w.heap.size]? = some (.cells (rdbC e q D) 50) := by rw [Below.heap_alloc _ _ _ (by simp; omega)]; exact second_blk w _ _
 have hx3 : (((w.alloc (.cells (rdbC e q D) 50)).alloc (.cells (entC r d) 31)).alloc (.cells #[.string ⟨#[]⟩, .int .i64 0, .slice none 0 0, .slice none 0 0] 50)).heap[w.heap.size + 1]? = some (.cells (entC r d) 31) := by rw [Below.heap_alloc _ _ _ (by simp)]; have := World.alloc_heap_new (w.alloc (.cells (rdbC e q D) 50)) (.cells (entC r d) 31); simpa using this
 have hz : canPut (((w.alloc (.cells (rdbC e q D) 50)).alloc (.cells (entC r d) 31)).alloc (.cells #[.string ⟨#[]⟩, .int .i64 0, .slice none 0 0, .slice none 0 0] 50)) (w.heap.size + 1 + 1) 0 4 = true := by simp [go_sem]
 have hW : (((w.alloc (.cells (rdbC e q D) 50)).alloc (.cells (entC r d) 31)).alloc (.cells #[.string ⟨#[]⟩, .int .i64 0, .slice none 0 0, .slice none 0 0] 50)).heap.size = w.heap.size + 1 + 1 + 1 := by simp
 go_enter Tryz.func38, Tryz.ntmps38
 go_wp2_with fail
 generalize (((w.alloc (.cells (rdbC e q D) 50)).alloc (.cells (entC r d) 31)).alloc (.cells #[.string ⟨#[]⟩, .int .i64 0, .slice none 0 0, .slice none 0 0] 50)) = W at *
 refine (valid24_b _ _ _ (he.later hB) true hv).mono ?_
 rintro x w1 ⟨rfl, hb1⟩
 have hs1 := hb1.size
 obtain ⟨hc, hf, hr, hlt⟩ := box_facts (still_blk hb1 hx2)
 obtain ⟨hc3, hf3, hr3, hlt3⟩ := box_facts (still_blk hb1 hx3)
 dsimp only
 go_wp2_with fail
 refine (policy26_c _ _ _ _ _ (hp.later (below_step hB hb1))).mono ?_
 rintro x w2 ⟨rfl, hb2⟩
 rw [hi]
 have hb12 := below_step hb1 hb2
 clear hc hf hr hlt hc3 hf3 hr3 hlt3
 obtain ⟨hc, hf, hr, hlt⟩ := box_facts (still_blk hb12 hx2)
 obtain ⟨hc3, hf3, hr3, hlt3⟩ := box_facts (still_blk hb12 hx3)
 dsimp only
 go_wp2_with fail
 refine (named26_c _ _ _ _ _ _ (hE.later (below_step hB hb12)) (he.name.later (below_step hB hb12))).mono ?_
 rintro x w4 ⟨rfl, hy4⟩
 rw [hat]
 have hb4 := below_step hb12 hy4
 clear hc hf hr hlt hc3 hf3 hr3 hlt3
 obtain ⟨hc, hf, hr, hlt⟩ := box_facts (still_blk hb4 hx2)
 obtain ⟨hc3, hf3, hr3, hlt3⟩ := box_facts (still_blk hb4 hx3)
 dsimp only
 go_wp2_with fail
 go_loopw [7] (fun iv wr => Below W.heap.size W wr ∧ ∃ k : Nat, k ≤ D.entries.length ∧ iv = .int .i64 k) (fun iv _ => D.entries.length - (intOf iv).toNat)
 case atStart => exact ⟨hb4, 0, Nat.zero_le _, rfl⟩
 case round =>
  obtain ⟨hbr, k, hk, rfl⟩ := hrel
  clear hc hf hr hlt hc3 hf3 hr3 hlt3
  obtain ⟨hc, hf, hr, hlt⟩ := box_facts (still_blk hbr hx2)
  obtain ⟨hc3, hf3, hr3, hlt3⟩ := box_facts (still_blk hbr hx3)
  have hBr := below_step hB hbr
  by_cases hkl : k < D.entries.length
  ·have hki : (k : Int) < (D.entries.length : Int) := by omega
   have hkX : k < X.length := by omega
   obtain ⟨b, o, ha, hb0⟩ : ∃ b o, e.a = some ⟨b, o, none⟩ ∧ b < w.heap.size := by rcases RowsAt.addr hX with h0 | h0; omega; exact h0
   have hrow0 : row? w b (o + k * 17) 17 = some (entC X[k].1 X[k].2) := (ha ▸ hX : RowsX w (some ⟨b, o, none⟩) X).at k hkX
   have hbw : b < wr.heap.size := Nat.lt_of_lt_of_le hb0 hBr.size
   have hrow := (row?_of_block (hBr.block b hb0) (o + k * 17) 17).trans hrow0
   have hxk := hm X[k] (List.getElem_mem hkX)
   have hnk : bsy X[k].2 d = true → (k : Int) = -1 := hnb k hkX
   generalize X[k] = x at *
   go_wp2_with fail
   refine wp_region_later (Below.refl _ wr) (by kernel_rfl) (by kernel_rfl) ?_
   repeat (go_big_quiet_step ((go_at_call 68; rename_i xw; exact Calls.later_of (has26_c _ _ _ _ _ ((hxk.later hBr).later xw.b) ((he.name.later hBr).later xw.b)))))
   refine wpQuiet_nil ?_
   intro w5 hb5
   have hb5' := below_step hbr hb5
   clear hc hf hr hlt hc3 hf3 hr3 hlt3 hrow hbw
   obtain ⟨hc, hf, hr, hlt⟩ := box_facts (still_blk hb5' hx2)
   obtain ⟨hc3, hf3, hr3, hlt3⟩ := box_facts (still_blk hb5' hx3)
   obtain ⟨wo, hwo⟩ : ∃ wo : World, wo = wr := ⟨_, rfl⟩
   have HZ0 : Hid (hasN x.2 d.name = bsyTo x.2 d 0) := by simp [Hid, bsyTo]
   generalize hasN x.2 d.name = z0 at *
   go_wp2_with fail
   go_loopw [8, 9] (fun zv jv wr => Below W.heap.size W wr ∧ ∃ (j : Nat) (z : Bool), j ≤ d.aliases.length ∧ jv = .int .i64 j ∧ zv = .bool z ∧ Hid (z = bsyTo x.2 d j)) (fun _ jv _ => d.aliases.length - (intOf jv).toNat)
   case atStart => exact ⟨hb5', 0, z0, Nat.zero_le _, rfl, rfl, HZ0⟩
   case round =>
    obtain ⟨hbq, j, z, hj, rfl, rfl, hzz⟩ := hrel
    clear hc hf hr hlt hc3 hf3 hr3 hlt3
    obtain ⟨hc, hf, hr, hlt⟩ := box_facts (still_blk hbq hx2)
    obtain ⟨hc3, hf3, hr3, hlt3⟩ := box_facts (still_blk hbq hx3)
    have hBq := below_step hB hbq
    by_cases hjl : j < d.aliases.length
    ·have hji : (j : Int) < (d.aliases.length : Int) := by omega
     obtain ⟨b2, o2, t2, ha2, hr2, hp2⟩ := he.aliases.get j hjl
     have hb2w : b2 < w.heap.size := row?_lt hr2
     have hb2q := Nat.lt_of_lt_of_le hb2w hBq.size
     have hbq0 := Nat.lt_of_lt_of_le hb0 hBq.size
     have hrow2 := (row?_of_block (hBq.block b2 hb2w) (o2 + j * 2) 2).trans hr2
     have hrow1 := (row?_of_block (hBq.block b hb0) (o + k * 17) 17).trans hrow0
     have hst := bsy_step (x := x.2) hjl
     generalize d.aliases[j] = al at *
     cases z
     ·have HZ := Lib.hid (show hasN x.2 al = bsyTo x.2 d (j + 1) by rw [hst, ← hzz.out]; rfl)
      clear hst hzz
      go_wp2_with fail
      refine wp_region_later (Below.refl _ wr) (by kernel_rfl) (by kernel_rfl) ?_
      repeat (go_big_quiet_step ((go_at_call 68; rename_i xw; exact Calls.later_of (has26_c _ _ _ _ _ ((hxk.later hBq).later xw.b) ((hp2.later hBq).later xw.b)))))
      refine wpQuiet_nil ?_
      intro w6 hb6
      have hb6' := below_step hbq hb6
      generalize hasN x.2 al = z1 at *
      go_wp2_with fail
      go_roundw
      case rel => first | exact ⟨hb6', j + 1, _, by omega, by go_num, rfl, HZ.out⟩ | ((repeat apply Exists.intro); exact ⟨⟨hb6', j + 1, _, by omega, by go_num, rfl, HZ.out⟩, rfl⟩)
      case measure => simp [intOf]; omega
     ·have HZ := Lib.hid (show true = bsyTo x.2 d (j + 1) by rw [hst, ← hzz.out]; rfl)
      clear hst hzz
      go_wp2_with fail
      refine wp_region_later (Below.refl _ wr) (by kernel_rfl) (by kernel_rfl) ?_
      repeat (go_big_quiet_step (fail))
      refine wpQuiet_nil ?_
      intro w6 hb6
      have hb6' := below_step hbq hb6
      go_wp2_with fail
      go_roundw
      case rel => first | exact ⟨hb6', j + 1, _, by omega, by go_num, rfl, HZ.out⟩ | ((repeat apply Exists.intro); exact ⟨⟨hb6', j + 1, _, by omega, by go_num, rfl, HZ.out⟩, rfl⟩)
      case measure => simp [intOf]; omega
    ·have HZ := Lib.hid (show z = bsy x.2 d by rw [hzz.out, bsy_end (by omega)])
     clear hzz
     cases z
     ·have hz9 : true = true := rfl
      go_wp2_with fail
      go_roundw
      case rel => first | exact ⟨hbq, k + 1, by omega, by go_num⟩ | ((repeat apply Exists.intro); exact ⟨⟨hbq, k + 1, by omega, by go_num⟩, rfl⟩)
      case measure => simp [intOf]; omega
     ·have hne9 : ((k : Int) != (-1)) = false := by simpa using hnk HZ.out.symm
      go_wp2_with fail
      go_roundw
      case rel => first | exact ⟨hbq, k + 1, by omega, by go_num⟩ | ((repeat apply Exists.intro); exact ⟨⟨hbq, k + 1, by omega, by go_num⟩, rfl⟩)
      case measure => simp [intOf]; omega
  ·obtain rfl : k = D.entries.length := by omega
   have hl4096 : ¬ (4096 : Int) ≤ (D.entries.length : Int) := by omega
   have hrem : (D.serial + 1).tmod 4611686018427387904 = D.serial + 1 := Int.tmod_eq_of_lt (by omega) (by omega)
   have hne1 : w.heap.size + 1 ≠ w.heap.size := by omega
   have hne2 : w.heap.size + 1 + 1 ≠ w.heap.size := by omega
   have hv2 := still_blk hbr hx2
   have hv3 := still_blk hbr hx3
   have hvz := (bput hbr (w.heap.size + 1 + 1) 0 4 (by omega)).trans hz
   have hBV := hBr
   have hsV : w.heap.size + 1 + 1 < wr.heap.size := by have := hbr.size; omega
   have hcon := insert26_c e.a e.cap X r d wr (hX.later hBr) (fun x hx => (hm x hx).later hBr) (he.later hBr) (by omega)
   go_wp2_with fail
   refine hcon.mono ?_
   generalize wr = V at *
   rintro x w7 ⟨s7, rfl, hb7, hd7⟩
   generalize hX7 : insertBy cmpPrin nameX (r, d) X = X7 at *
   have hy2 := still_blk hb7 hv2
   have hs7 := hb7.size
   clear hc hf hr hlt hc3 hf3 hr3 hlt3
   obtain ⟨hc, hf, hr, hlt⟩ := box_facts hy2
   have hset := setCell_blk (o := 1) (.int .i64 (D.serial + 1)) (setCell_blk (o := 2) (.slice s7.a X7.length s7.cap) hy2)
   have hrw0 : row? ((w7.setCell ⟨w.heap.size, 2, none⟩ (.slice s7.a X7.length s7.cap)).setCell ⟨w.heap.size, 1, none⟩ (.int .i64 (D.serial + 1))) w.heap.size 0 4 = some (rdbC s7 q { D with entries := X7.map (·.2), serial := D.serial + 1 }) := (row?_of_cells hset).trans (by rw [show X7.length = (X7.map (·.2)).length from (List.length_map _).symm]; kernel_rfl)
   have hcp : canPut ((w7.setCell ⟨w.heap.size, 2, none⟩ (.slice s7.a X7.length s7.cap)).setCell ⟨w.heap.size, 1, none⟩ (.int .i64 (D.serial + 1))) (w.heap.size + 1 + 1) 0 4 = true := (canPut_setCell_other hne2).trans ((canPut_setCell_other hne2).trans ((bput hb7 (w.heap.size + 1 + 1) 0 4 hsV).trans hvz))
   clear hr
   dsimp only
   go_wp2_with fail
   have hrow := row?_putRow_whole (rdbC_size s7 q { D with entries := X7.map (·.2), serial := D.serial + 1 }) hcp
   refine bodyPost_ret (results_row2 (by rfl) Tryz.underlying50 rfl (by kernel_rfl) rfl hrow) rfl ⟨s7, rfl, Go.WW.Below.putRow (((below_step hBV hb7).setCell (by simp) _).setCell (by simp) _) (by omega), fun y hy => hd7 _ (fun g hg => ?_)⟩
   have hg1 := hg.1
   have hg2 := hg.2
   rw [hy g ⟨by omega, by rw [putRow_size]; simp only [World.setCell, Array.size_modify]; omega⟩, putRow_other (by omega), Below.heap_setCell _ _ _ _ (show g ≠ w.heap.size by omega), Below.heap_setCell _ _ _ _ (show g ≠ w.heap.size by omega)]
set_option maxRecDepth 100000 in
set_option maxHeartbeats 2000000 in
theorem put26_old_none (e q : Sl) (D : Db) (r : ERaw) (d : Entry) (w : World) (he : EntAt w r d) (X : List EE) (hX : RowsX w e.a X) (hm : ∀ x ∈ X, EntAt w x.1 x.2) (hD : D.entries = X.map (·.2)) (hn : X.length ≤ 1000) (hv : entryOk d = true) (hre : d.name.realm = D.realm) (hpe : d.policy = ⟨#[]⟩) (i0 : Nat) (hi0 : i0 < X.length) (hat : idxOf (fun z => samePrin z.name d.name) D.entries = (i0 : Int)) (hnb : ∀ i (h : i < X.length), bsy X[i].2 d = true → (i : Int) = (i0 : Int)) (hs0 : 0 ≤ D.serial) (hs1 : D.serial < 1000000) : Calls Tryz.prog 38 #[.agg (rdbC e q D), .agg (entC r d)] w (OutE q D (insertBy cmpPrin nameX (r, d) (X.eraseIdx i0)) w) := by
 have hre' := str_eq _ _ hre
 clear hre
 have hlen : D.entries.length = X.length := by rw [hD]; simp
 have hE : EntsAt w e.a D.entries := by rw [hD]; exact hX.ents hm
 have hal : d.aliases.length ≤ 4294967000 := he.aliases.1
 clear hD
 have hpe1 : d.policy.toList = [] := by rw [hpe, ByteArray.toList_eq]
 have hpe2 : d.policy.toList.isEmpty = true := by rw [hpe1]; rfl
 clear hpe
 have hB : Below w.heap.size w (((w.alloc (.cells (rdbC e q D) 50)).alloc (.cells (entC r d) 31)).alloc (.cells #[.string ⟨#[]⟩, .int .i64 0, .slice none 0 0, .slice none 0 0] 50)) := (((Below.refl _ _).alloc (Nat.le_refl _) _).alloc (by simp) _).alloc (by simp; omega) _
 have hx2 : (((w.alloc (.cells (rdbC e q D) 50)).alloc (.cells (entC r d) 31)).alloc (.cells #[.string ⟨#[]⟩, .int .i64 0, .slice none 0 0, .slice none 0 0] 50)).heap[w.heap.size]? = some (.cells (rdbC e q D) 50) := by rw [Below.heap_alloc _ _ _ (by simp; omega)]; exact second_blk w _ _
 have hx3 : (((w.alloc (.cells (rdbC e q D) 50)).alloc (.cells (entC r d) 31)).alloc (.cells #[.string ⟨#[]⟩, .int .i64 0, .slice none 0 0, .slice none 0 0] 50)).heap[w.heap.size + 1]? = some (.cells (entC r d) 31) := by rw [Below.heap_alloc _ _ _ (by simp)]; have := World.alloc_heap_new (w.alloc (.cells (rdbC e q D) 50)) (.cells (entC r d) 31); simpa using this
 have hz : canPut (((w.alloc (.cells (rdbC e q D) 50)).alloc (.cells (entC r d) 31)).alloc (.cells #[.string ⟨#[]⟩, .int .i64 0, .slice none 0 0, .slice none 0 0] 50)) (w.heap.size + 1 + 1) 0 4 = true := by simp [go_sem]
 have hW : (((w.alloc (.cells (rdbC e q D) 50)).alloc (.cells (entC r d) 31)).alloc (.cells #[.string ⟨#[]⟩, .int .i64 0, .slice none 0 0, .slice none 0 0] 50)).heap.size = w.heap.size + 1 + 1 + 1 := by simp
 go_enter Tryz.func38, Tryz.ntmps38
 go_wp2_with fail
 generalize (((w.alloc (.cells (rdbC e q D) 50)).alloc (.cells (entC r d) 31)).alloc (.cells #[.string ⟨#[]⟩, .int .i64 0, .slice none 0 0, .slice none 0 0] 50)) = W at *
 refine (valid24_b _ _ _ (he.later hB) true hv).mono ?_
 rintro x w1 ⟨rfl, hb1⟩
 have hs1 := hb1.size
 obtain ⟨hc, hf, hr, hlt⟩ := box_facts (still_blk hb1 hx2)
 obtain ⟨hc3, hf3, hr3, hlt3⟩ := box_facts (still_blk hb1 hx3)
 dsimp only
 go_wp2_with fail
 refine (named26_c _ _ _ _ _ _ (hE.later (below_step hB hb1)) (he.name.later (below_step hB hb1))).mono ?_
 rintro x w4 ⟨rfl, hy4⟩
 rw [hat]
 have hb4 := below_step hb1 hy4
 clear hc hf hr hlt hc3 hf3 hr3 hlt3
 obtain ⟨hc, hf, hr, hlt⟩ := box_facts (still_blk hb4 hx2)
 obtain ⟨hc3, hf3, hr3, hlt3⟩ := box_facts (still_blk hb4 hx3)
 dsimp only
 go_wp2_with fail
 go_loopw [7] (fun iv wr => Below W.heap.size W wr ∧ ∃ k : Nat, k ≤ D.entries.length ∧ iv = .int .i64 k) (fun iv _ => D.entries.length - (intOf iv).toNat)
 case atStart => exact ⟨hb4, 0, Nat.zero_le _, rfl⟩
 case round =>
  obtain ⟨hbr, k, hk, rfl⟩ := hrel
  clear hc hf hr hlt hc3 hf3 hr3 hlt3
  obtain ⟨hc, hf, hr, hlt⟩ := box_facts (still_blk hbr hx2)
  obtain ⟨hc3, hf3, hr3, hlt3⟩ := box_facts (still_blk hbr hx3)
  have hBr := below_step hB hbr
  by_cases hkl : k < D.entries.length
  ·have hki : (k : Int) < (D.entries.length : Int) := by omega
   have hkX : k < X.length := by omega
   obtain ⟨b, o, ha, hb0⟩ : ∃ b o, e.a = some ⟨b, o, none⟩ ∧ b < w.heap.size := by rcases RowsAt.addr hX with h0 | h0; omega; exact h0
   have hrow0 : row? w b (o + k * 17) 17 = some (entC X[k].1 X[k].2) := (ha ▸ hX : RowsX w (some ⟨b, o, none⟩) X).at k hkX
   have hbw : b < wr.heap.size := Nat.lt_of_lt_of_le hb0 hBr.size
   have hrow := (row?_of_block (hBr.block b hb0) (o + k * 17) 17).trans hrow0
   have hxk := hm X[k] (List.getElem_mem hkX)
   have hnk : bsy X[k].2 d = true → (k : Int) = (i0 : Int) := hnb k hkX
   generalize X[k] = x at *
   go_wp2_with fail
   refine wp_region_later (Below.refl _ wr) (by kernel_rfl) (by kernel_rfl) ?_
   repeat (go_big_quiet_step ((go_at_call 68; rename_i xw; exact Calls.later_of (has26_c _ _ _ _ _ ((hxk.later hBr).later xw.b) ((he.name.later hBr).later xw.b)))))
   refine wpQuiet_nil ?_
   intro w5 hb5
   have hb5' := below_step hbr hb5
   clear hc hf hr hlt hc3 hf3 hr3 hlt3 hrow hbw
   obtain ⟨hc, hf, hr, hlt⟩ := box_facts (still_blk hb5' hx2)
   obtain ⟨hc3, hf3, hr3, hlt3⟩ := box_facts (still_blk hb5' hx3)
   obtain ⟨wo, hwo⟩ : ∃ wo : World, wo = wr := ⟨_, rfl⟩
   have HZ0 : Hid (hasN x.2 d.name = bsyTo x.2 d 0) := by simp [Hid, bsyTo]
   generalize hasN x.2 d.name = z0 at *
   go_wp2_with fail
   go_loopw [8, 9] (fun zv jv wr => Below W.heap.size W wr ∧ ∃ (j : Nat) (z : Bool), j ≤ d.aliases.length ∧ jv = .int .i64 j ∧ zv = .bool z ∧ Hid (z = bsyTo x.2 d j)) (fun _ jv _ => d.aliases.length - (intOf jv).toNat)
   case atStart => exact ⟨hb5', 0, z0, Nat.zero_le _, rfl, rfl, HZ0⟩
   case round =>
    obtain ⟨hbq, j, z, hj, rfl, rfl, hzz⟩ := hrel
    clear hc hf hr hlt hc3 hf3 hr3 hlt3
    obtain ⟨hc, hf, hr, hlt⟩ := box_facts (still_blk hbq hx2)
    obtain ⟨hc3, hf3, hr3, hlt3⟩ := box_facts (still_blk hbq hx3)
    have hBq := below_step hB hbq
    by_cases hjl : j < d.aliases.length
    ·have hji : (j : Int) < (d.aliases.length : Int) := by omega
     obtain ⟨b2, o2, t2, ha2, hr2, hp2⟩ := he.aliases.get j hjl
     have hb2w : b2 < w.heap.size := row?_lt hr2
     have hb2q := Nat.lt_of_lt_of_le hb2w hBq.size
     have hbq0 := Nat.lt_of_lt_of_le hb0 hBq.size
     have hrow2 := (row?_of_block (hBq.block b2 hb2w) (o2 + j * 2) 2).trans hr2
     have hrow1 := (row?_of_block (hBq.block b hb0) (o + k * 17) 17).trans hrow0
     have hst := bsy_step (x := x.2) hjl
     generalize d.aliases[j] = al at *
     cases z
     ·have HZ := Lib.hid (show hasN x.2 al = bsyTo x.2 d (j + 1) by rw [hst, ← hzz.out]; rfl)
      clear hst hzz
      go_wp2_with fail
      refine wp_region_later (Below.refl _ wr) (by kernel_rfl) (by kernel_rfl) ?_
      repeat (go_big_quiet_step ((go_at_call 68; rename_i xw; exact Calls.later_of (has26_c _ _ _ _ _ ((hxk.later hBq).later xw.b) ((hp2.later hBq).later xw.b)))))
      refine wpQuiet_nil ?_
      intro w6 hb6
      have hb6' := below_step hbq hb6
      generalize hasN x.2 al = z1 at *
      go_wp2_with fail
      go_roundw
      case rel => first | exact ⟨hb6', j + 1, _, by omega, by go_num, rfl, HZ.out⟩ | ((repeat apply Exists.intro); exact ⟨⟨hb6', j + 1, _, by omega, by go_num, rfl, HZ.out⟩, rfl⟩)
      case measure => simp [intOf]; omega
     ·have HZ := Lib.hid (show true = bsyTo x.2 d (j + 1) by rw [hst, ← hzz.out]; rfl)
      clear hst hzz
      go_wp2_with fail
      refine wp_region_later (Below.refl _ wr) (by kernel_rfl) (by kernel_rfl) ?_
      repeat (go_big_quiet_step (fail))
      refine wpQuiet_nil ?_
      intro w6 hb6
      have hb6' := below_step hbq hb6
      go_wp2_with fail
      go_roundw
      case rel => first | exact ⟨hb6', j + 1, _, by omega, by go_num, rfl, HZ.out⟩ | ((repeat apply Exists.intro); exact ⟨⟨hb6', j + 1, _, by omega, by go_num, rfl, HZ.out⟩, rfl⟩)
      case measure => simp [intOf]; omega
    ·have HZ := Lib.hid (show z = bsy x.2 d by rw [hzz.out, bsy_end (by omega)])
     clear hzz
     cases z
     ·have hz9 : true = true := rfl
      go_wp2_with fail
      go_roundw
      case rel => first | exact ⟨hbq, k + 1, by omega, by go_num⟩ | ((repeat apply Exists.intro); exact ⟨⟨hbq, k + 1, by omega, by go_num⟩, rfl⟩)
      case measure => simp [intOf]; omega
     ·have hne9 : ((k : Int) != ((i0 : Int))) = false := by simpa using hnk HZ.out.symm
      go_wp2_with fail
      go_roundw
      case rel => first | exact ⟨hbq, k + 1, by omega, by go_num⟩ | ((repeat apply Exists.intro); exact ⟨⟨hbq, k + 1, by omega, by go_num⟩, rfl⟩)
      case measure => simp [intOf]; omega
  ·obtain rfl : k = D.entries.length := by omega
   have hl4096 : ¬ (4096 : Int) ≤ (D.entries.length : Int) := by omega
   have hrem : (D.serial + 1).tmod 4611686018427387904 = D.serial + 1 := Int.tmod_eq_of_lt (by omega) (by omega)
   have hne1 : w.heap.size + 1 ≠ w.heap.size := by omega
   have hne2 : w.heap.size + 1 + 1 ≠ w.heap.size := by omega
   have hge : (0 : Int) ≤ (i0 : Int) := by omega
   have hng : ¬ (i0 : Int) < 0 := by omega
   have hcon := without26_c e.a e.cap X i0 wr (hX.later hBr) hi0
   go_wp2_with fail
   refine hcon.mono ?_
   rintro x w5 ⟨s5, rfl, hb5, hd5⟩
   have hb5' := below_step hbr hb5
   clear hc hf hr hlt hc3 hf3 hr3 hlt3
   obtain ⟨hc, hf, hr, hlt⟩ := box_facts (still_blk hb5' hx2)
   obtain ⟨hc3, hf3, hr3, hlt3⟩ := box_facts (still_blk hb5' hx3)
   dsimp only
   go_wp2_with fail
   have hv2 : (w5.setCell ⟨w.heap.size, 2, none⟩ (.slice s5.a (X.eraseIdx i0).length s5.cap)).heap[w.heap.size]? = some (.cells (rdbC s5 q { D with entries := (X.eraseIdx i0).map (·.2) }) 50) := (setCell_blk (o := 2) _ (still_blk hb5' hx2)).trans (by rw [show (X.eraseIdx i0).length = ((X.eraseIdx i0).map (·.2)).length from (List.length_map _).symm, rdbC_setE])
   have hv3 : (w5.setCell ⟨w.heap.size, 2, none⟩ (.slice s5.a (X.eraseIdx i0).length s5.cap)).heap[w.heap.size + 1]? = some (.cells (entC r d) 31) := (Below.heap_setCell _ _ _ _ hne1).trans (still_blk hb5' hx3)
   have hvz : canPut (w5.setCell ⟨w.heap.size, 2, none⟩ (.slice s5.a (X.eraseIdx i0).length s5.cap)) (w.heap.size + 1 + 1) 0 4 = true := (canPut_setCell_other hne2).trans ((bput hb5' (w.heap.size + 1 + 1) 0 4 (by omega)).trans hz)
   have hBV : Below w.heap.size w (w5.setCell ⟨w.heap.size, 2, none⟩ (.slice s5.a (X.eraseIdx i0).length s5.cap)) := (below_step hB hb5').setCell (by simp) _
   have hXV : RowsX (w5.setCell ⟨w.heap.size, 2, none⟩ (.slice s5.a (X.eraseIdx i0).length s5.cap)) s5.a (X.eraseIdx i0) := hd5 _ (fun g hg => Below.heap_setCell _ _ _ _ (show g ≠ w.heap.size by have := hg.1; have := hbr.size; omega))
   have hsV : w.heap.size + 1 + 1 < (w5.setCell ⟨w.heap.size, 2, none⟩ (.slice s5.a (X.eraseIdx i0).length s5.cap)).heap.size := by simp only [World.setCell, Array.size_modify]; have := hb5'.size; omega
   have hmV : ∀ x ∈ X.eraseIdx i0, EntAt w x.1 x.2 := fun x hx => hm x (List.mem_of_mem_eraseIdx hx)
   have hnV : (X.eraseIdx i0).length ≤ 1000000 := by have := List.length_eraseIdx_le X i0; omega
   generalize (w5.setCell ⟨w.heap.size, 2, none⟩ (.slice s5.a (X.eraseIdx i0).length s5.cap)) = V at *
   clear hc hf hr hlt hc3 hf3 hr3 hlt3
   generalize hX5 : X.eraseIdx i0 = X5 at *
   have hcon := insert26_c s5.a s5.cap X5 r d V hXV (fun x hx => (hmV x hx).later hBV) (he.later hBV) hnV
   refine hcon.mono ?_
   rintro x w7 ⟨s7, rfl, hb7, hd7⟩
   generalize hX7 : insertBy cmpPrin nameX (r, d) X5 = X7 at *
   have hy2 := still_blk hb7 hv2
   have hs7 := hb7.size
   obtain ⟨hc, hf, hr, hlt⟩ := box_facts hy2
   have hset := setCell_blk (o := 1) (.int .i64 (D.serial + 1)) (setCell_blk (o := 2) (.slice s7.a X7.length s7.cap) hy2)
   have hrw0 : row? ((w7.setCell ⟨w.heap.size, 2, none⟩ (.slice s7.a X7.length s7.cap)).setCell ⟨w.heap.size, 1, none⟩ (.int .i64 (D.serial + 1))) w.heap.size 0 4 = some (rdbC s7 q { D with entries := X7.map (·.2), serial := D.serial + 1 }) := (row?_of_cells hset).trans (by rw [show X7.length = (X7.map (·.2)).length from (List.length_map _).symm]; kernel_rfl)
   have hcp : canPut ((w7.setCell ⟨w.heap.size, 2, none⟩ (.slice s7.a X7.length s7.cap)).setCell ⟨w.heap.size, 1, none⟩ (.int .i64 (D.serial + 1))) (w.heap.size + 1 + 1) 0 4 = true := (canPut_setCell_other hne2).trans ((canPut_setCell_other hne2).trans ((bput hb7 (w.heap.size + 1 + 1) 0 4 hsV).trans hvz))
   clear hr
   dsimp only
   go_wp2_with fail
   have hrow := row?_putRow_whole (rdbC_size s7 q { D with entries := X7.map (·.2), serial := D.serial + 1 }) hcp
   refine bodyPost_ret (results_row2 (by rfl) Tryz.underlying50 rfl (by kernel_rfl) rfl hrow) rfl ⟨s7, rfl, Go.WW.Below.putRow (((below_step hBV hb7).setCell (by simp) _).setCell (by simp) _) (by omega), fun y hy => hd7 _ (fun g hg => ?_)⟩
   have hg1 := hg.1
   have hg2 := hg.2
   rw [hy g ⟨by omega, by rw [putRow_size]; simp only [World.setCell, Array.size_modify]; omega⟩, putRow_other (by omega), Below.heap_setCell _ _ _ _ (show g ≠ w.heap.size by omega), Below.heap_setCell _ _ _ _ (show g ≠ w.heap.size by omega)]
set_option maxRecDepth 100000 in
set_option maxHeartbeats 2000000 in
theorem put26_old_some (e q : Sl) (D : Db) (r : ERaw) (d : Entry) (w : World) (he : EntAt w r d) (X : List EE) (hX : RowsX w e.a X) (hm : ∀ x ∈ X, EntAt w x.1 x.2) (hD : D.entries = X.map (·.2)) (hn : X.length ≤ 1000) (hv : entryOk d = true) (hre : d.name.realm = D.realm) (hp : PolsAt w q.a D.policies) (hpe : ¬ d.policy = ⟨#[]⟩) (jp : Nat) (hi : idxOf (fun z => decide (z.name = d.policy)) D.policies = (jp : Int)) (i0 : Nat) (hi0 : i0 < X.length) (hat : idxOf (fun z => samePrin z.name d.name) D.entries = (i0 : Int)) (hnb : ∀ i (h : i < X.length), bsy X[i].2 d = true → (i : Int) = (i0 : Int)) (hs0 : 0 ≤ D.serial) (hs1 : D.serial < 1000000) : Calls Tryz.prog 38 #[.agg (rdbC e q D), .agg (entC r d)] w (OutE q D (insertBy cmpPrin nameX (r, d) (X.eraseIdx i0)) w) := by
 have hre' := str_eq _ _ hre
 clear hre
 have hlen : D.entries.length = X.length := by rw [hD]; simp
 have hE : EntsAt w e.a D.entries := by rw [hD]; exact hX.ents hm
 have hal : d.aliases.length ≤ 4294967000 := he.aliases.1
 clear hD
 have hpe' := str_ne _ _ hpe
 have hpe1 : ¬ d.policy.toList = [] := fun h => hpe (toList_inj (b := ⟨#[]⟩) (by rw [h, ByteArray.toList_eq]))
 have hpe2 : d.policy.toList.isEmpty = false := by cases h : d.policy.toList <;> simp_all
 clear hpe
 have hB : Below w.heap.size w (((w.alloc (.cells (rdbC e q D) 50)).alloc (.cells (entC r d) 31)).alloc (.cells #[.string ⟨#[]⟩, .int .i64 0, .slice none 0 0, .slice none 0 0] 50)) := (((Below.refl _ _).alloc (Nat.le_refl _) _).alloc (by simp) _).alloc (by simp; omega) _
 have hx2 : (((w.alloc (.cells (rdbC e q D) 50)).alloc (.cells (entC r d) 31)).alloc (.cells #[.string ⟨#[]⟩, .int .i64 0, .slice none 0 0, .slice none 0 0] 50)).heap[w.heap.size]? = some (.cells (rdbC e q D) 50) := by rw [Below.heap_alloc _ _ _ (by simp; omega)]; exact second_blk w _ _
 have hx3 : (((w.alloc (.cells (rdbC e q D) 50)).alloc (.cells (entC r d) 31)).alloc (.cells #[.string ⟨#[]⟩, .int .i64 0, .slice none 0 0, .slice none 0 0] 50)).heap[w.heap.size + 1]? = some (.cells (entC r d) 31) := by rw [Below.heap_alloc _ _ _ (by simp)]; have := World.alloc_heap_new (w.alloc (.cells (rdbC e q D) 50)) (.cells (entC r d) 31); simpa using this
 have hz : canPut (((w.alloc (.cells (rdbC e q D) 50)).alloc (.cells (entC r d) 31)).alloc (.cells #[.string ⟨#[]⟩, .int .i64 0, .slice none 0 0, .slice none 0 0] 50)) (w.heap.size + 1 + 1) 0 4 = true := by simp [go_sem]
 have hW : (((w.alloc (.cells (rdbC e q D) 50)).alloc (.cells (entC r d) 31)).alloc (.cells #[.string ⟨#[]⟩, .int .i64 0, .slice none 0 0, .slice none 0 0] 50)).heap.size = w.heap.size + 1 + 1 + 1 := by simp
 go_enter Tryz.func38, Tryz.ntmps38
 go_wp2_with fail
 generalize (((w.alloc (.cells (rdbC e q D) 50)).alloc (.cells (entC r d) 31)).alloc (.cells #[.string ⟨#[]⟩, .int .i64 0, .slice none 0 0, .slice none 0 0] 50)) = W at *
 refine (valid24_b _ _ _ (he.later hB) true hv).mono ?_
 rintro x w1 ⟨rfl, hb1⟩
 have hs1 := hb1.size
 obtain ⟨hc, hf, hr, hlt⟩ := box_facts (still_blk hb1 hx2)
 obtain ⟨hc3, hf3, hr3, hlt3⟩ := box_facts (still_blk hb1 hx3)
 dsimp only
 go_wp2_with fail
 refine (policy26_c _ _ _ _ _ (hp.later (below_step hB hb1))).mono ?_
 rintro x w2 ⟨rfl, hb2⟩
 rw [hi]
 have hb12 := below_step hb1 hb2
 clear hc hf hr hlt hc3 hf3 hr3 hlt3
 obtain ⟨hc, hf, hr, hlt⟩ := box_facts (still_blk hb12 hx2)
 obtain ⟨hc3, hf3, hr3, hlt3⟩ := box_facts (still_blk hb12 hx3)
 dsimp only
 go_wp2_with fail
 refine (named26_c _ _ _ _ _ _ (hE.later (below_step hB hb12)) (he.name.later (below_step hB hb12))).mono ?_
 rintro x w4 ⟨rfl, hy4⟩
 rw [hat]
 have hb4 := below_step hb12 hy4
 clear hc hf hr hlt hc3 hf3 hr3 hlt3
 obtain ⟨hc, hf, hr, hlt⟩ := box_facts (still_blk hb4 hx2)
 obtain ⟨hc3, hf3, hr3, hlt3⟩ := box_facts (still_blk hb4 hx3)
 dsimp only
 go_wp2_with fail
 go_loopw [7] (fun iv wr => Below W.heap.size W wr ∧ ∃ k : Nat, k ≤ D.entries.length ∧ iv = .int .i64 k) (fun iv _ => D.entries.length - (intOf iv).toNat)
 case atStart => exact ⟨hb4, 0, Nat.zero_le _, rfl⟩
 case round =>
  obtain ⟨hbr, k, hk, rfl⟩ := hrel
  clear hc hf hr hlt hc3 hf3 hr3 hlt3
  obtain ⟨hc, hf, hr, hlt⟩ := box_facts (still_blk hbr hx2)
  obtain ⟨hc3, hf3, hr3, hlt3⟩ := box_facts (still_blk hbr hx3)
  have hBr := below_step hB hbr
  by_cases hkl : k < D.entries.length
  ·have hki : (k : Int) < (D.entries.length : Int) := by omega
   have hkX : k < X.length := by omega
   obtain ⟨b, o, ha, hb0⟩ : ∃ b o, e.a = some ⟨b, o, none⟩ ∧ b < w.heap.size := by rcases RowsAt.addr hX with h0 | h0; omega; exact h0
   have hrow0 : row? w b (o + k * 17) 17 = some (entC X[k].1 X[k].2) := (ha ▸ hX : RowsX w (some ⟨b, o, none⟩) X).at k hkX
   have hbw : b < wr.heap.size := Nat.lt_of_lt_of_le hb0 hBr.size
   have hrow := (row?_of_block (hBr.block b hb0) (o + k * 17) 17).trans hrow0
   have hxk := hm X[k] (List.getElem_mem hkX)
   have hnk : bsy X[k].2 d = true → (k : Int) = (i0 : Int) := hnb k hkX
   generalize X[k] = x at *
   go_wp2_with fail
   refine wp_region_later (Below.refl _ wr) (by kernel_rfl) (by kernel_rfl) ?_
   repeat (go_big_quiet_step ((go_at_call 68; rename_i xw; exact Calls.later_of (has26_c _ _ _ _ _ ((hxk.later hBr).later xw.b) ((he.name.later hBr).later xw.b)))))
   refine wpQuiet_nil ?_
   intro w5 hb5
   have hb5' := below_step hbr hb5
   clear hc hf hr hlt hc3 hf3 hr3 hlt3 hrow hbw
   obtain ⟨hc, hf, hr, hlt⟩ := box_facts (still_blk hb5' hx2)
   obtain ⟨hc3, hf3, hr3, hlt3⟩ := box_facts (still_blk hb5' hx3)
   obtain ⟨wo, hwo⟩ : ∃ wo : World, wo = wr := ⟨_, rfl⟩
   have HZ0 : Hid (hasN x.2 d.name = bsyTo x.2 d 0) := by simp [Hid, bsyTo]
   generalize hasN x.2 d.name = z0 at *
   go_wp2_with fail
   go_loopw [8, 9] (fun zv jv wr => Below W.heap.size W wr ∧ ∃ (j : Nat) (z : Bool), j ≤ d.aliases.length ∧ jv = .int .i64 j ∧ zv = .bool z ∧ Hid (z = bsyTo x.2 d j)) (fun _ jv _ => d.aliases.length - (intOf jv).toNat)
   case atStart => exact ⟨hb5', 0, z0, Nat.zero_le _, rfl, rfl, HZ0⟩
   case round =>
    obtain ⟨hbq, j, z, hj, rfl, rfl, hzz⟩ := hrel
    clear hc hf hr hlt hc3 hf3 hr3 hlt3
    obtain ⟨hc, hf, hr, hlt⟩ := box_facts (still_blk hbq hx2)
    obtain ⟨hc3, hf3, hr3, hlt3⟩ := box_facts (still_blk hbq hx3)
    have hBq := below_step hB hbq
    by_cases hjl : j < d.aliases.length
    ·have hji : (j : Int) < (d.aliases.length : Int) := by omega
     obtain ⟨b2, o2, t2, ha2, hr2, hp2⟩ := he.aliases.get j hjl
     have hb2w : b2 < w.heap.size := row?_lt hr2
     have hb2q := Nat.lt_of_lt_of_le hb2w hBq.size
     have hbq0 := Nat.lt_of_lt_of_le hb0 hBq.size
     have hrow2 := (row?_of_block (hBq.block b2 hb2w) (o2 + j * 2) 2).trans hr2
     have hrow1 := (row?_of_block (hBq.block b hb0) (o + k * 17) 17).trans hrow0
     have hst := bsy_step (x := x.2) hjl
     generalize d.aliases[j] = al at *
     cases z
     ·have HZ := Lib.hid (show hasN x.2 al = bsyTo x.2 d (j + 1) by rw [hst, ← hzz.out]; rfl)
      clear hst hzz
      go_wp2_with fail
      refine wp_region_later (Below.refl _ wr) (by kernel_rfl) (by kernel_rfl) ?_
      repeat (go_big_quiet_step ((go_at_call 68; rename_i xw; exact Calls.later_of (has26_c _ _ _ _ _ ((hxk.later hBq).later xw.b) ((hp2.later hBq).later xw.b)))))
      refine wpQuiet_nil ?_
      intro w6 hb6
      have hb6' := below_step hbq hb6
      generalize hasN x.2 al = z1 at *
      go_wp2_with fail
      go_roundw
      case rel => first | exact ⟨hb6', j + 1, _, by omega, by go_num, rfl, HZ.out⟩ | ((repeat apply Exists.intro); exact ⟨⟨hb6', j + 1, _, by omega, by go_num, rfl, HZ.out⟩, rfl⟩)
      case measure => simp [intOf]; omega
     ·have HZ := Lib.hid (show true = bsyTo x.2 d (j + 1) by rw [hst, ← hzz.out]; rfl)
      clear hst hzz
      go_wp2_with fail
      refine wp_region_later (Below.refl _ wr) (by kernel_rfl) (by kernel_rfl) ?_
      repeat (go_big_quiet_step (fail))
      refine wpQuiet_nil ?_
      intro w6 hb6
      have hb6' := below_step hbq hb6
      go_wp2_with fail
      go_roundw
      case rel => first | exact ⟨hb6', j + 1, _, by omega, by go_num, rfl, HZ.out⟩ | ((repeat apply Exists.intro); exact ⟨⟨hb6', j + 1, _, by omega, by go_num, rfl, HZ.out⟩, rfl⟩)
      case measure => simp [intOf]; omega
    ·have HZ := Lib.hid (show z = bsy x.2 d by rw [hzz.out, bsy_end (by omega)])
     clear hzz
     cases z
     ·have hz9 : true = true := rfl
      go_wp2_with fail
      go_roundw
      case rel => first | exact ⟨hbq, k + 1, by omega, by go_num⟩ | ((repeat apply Exists.intro); exact ⟨⟨hbq, k + 1, by omega, by go_num⟩, rfl⟩)
      case measure => simp [intOf]; omega
     ·have hne9 : ((k : Int) != ((i0 : Int))) = false := by simpa using hnk HZ.out.symm
      go_wp2_with fail
      go_roundw
      case rel => first | exact ⟨hbq, k + 1, by omega, by go_num⟩ | ((repeat apply Exists.intro); exact ⟨⟨hbq, k + 1, by omega, by go_num⟩, rfl⟩)
      case measure => simp [intOf]; omega
  ·obtain rfl : k = D.entries.length := by omega
   have hl4096 : ¬ (4096 : Int) ≤ (D.entries.length : Int) := by omega
   have hrem : (D.serial + 1).tmod 4611686018427387904 = D.serial + 1 := Int.tmod_eq_of_lt (by omega) (by omega)
   have hne1 : w.heap.size + 1 ≠ w.heap.size := by omega
   have hne2 : w.heap.size + 1 + 1 ≠ w.heap.size := by omega
   have hge : (0 : Int) ≤ (i0 : Int) := by omega
   have hng : ¬ (i0 : Int) < 0 := by omega
   have hcon := without26_c e.a e.cap X i0 wr (hX.later hBr) hi0
   go_wp2_with fail
   refine hcon.mono ?_
   rintro x w5 ⟨s5, rfl, hb5, hd5⟩
   have hb5' := below_step hbr hb5
   clear hc hf hr hlt hc3 hf3 hr3 hlt3
   obtain ⟨hc, hf, hr, hlt⟩ := box_facts (still_blk hb5' hx2)
   obtain ⟨hc3, hf3, hr3, hlt3⟩ := box_facts (still_blk hb5' hx3)
   dsimp only
   go_wp2_with fail
   have hv2 : (w5.setCell ⟨w.heap.size, 2, none⟩ (.slice s5.a (X.eraseIdx i0).length s5.cap)).heap[w.heap.size]? = some (.cells (rdbC s5 q { D with entries := (X.eraseIdx i0).map (·.2) }) 50) := (setCell_blk (o := 2) _ (still_blk hb5' hx2)).trans (by rw [show (X.eraseIdx i0).length = ((X.eraseIdx i0).map (·.2)).length from (List.length_map _).symm, rdbC_setE])
   have hv3 : (w5.setCell ⟨w.heap.size, 2, none⟩ (.slice s5.a (X.eraseIdx i0).length s5.cap)).heap[w.heap.size + 1]? = some (.cells (entC r d) 31) := (Below.heap_setCell _ _ _ _ hne1).trans (still_blk hb5' hx3)
   have hvz : canPut (w5.setCell ⟨w.heap.size, 2, none⟩ (.slice s5.a (X.eraseIdx i0).length s5.cap)) (w.heap.size + 1 + 1) 0 4 = true := (canPut_setCell_other hne2).trans ((bput hb5' (w.heap.size + 1 + 1) 0 4 (by omega)).trans hz)
   have hBV : Below w.heap.size w (w5.setCell ⟨w.heap.size, 2, none⟩ (.slice s5.a (X.eraseIdx i0).length s5.cap)) := (below_step hB hb5').setCell (by simp) _
   have hXV : RowsX (w5.setCell ⟨w.heap.size, 2, none⟩ (.slice s5.a (X.eraseIdx i0).length s5.cap)) s5.a (X.eraseIdx i0) := hd5 _ (fun g hg => Below.heap_setCell _ _ _ _ (show g ≠ w.heap.size by have := hg.1; have := hbr.size; omega))
   have hsV : w.heap.size + 1 + 1 < (w5.setCell ⟨w.heap.size, 2, none⟩ (.slice s5.a (X.eraseIdx i0).length s5.cap)).heap.size := by simp only [World.setCell, Array.size_modify]; have := hb5'.size; omega
   have hmV : ∀ x ∈ X.eraseIdx i0, EntAt w x.1 x.2 := fun x hx => hm x (List.mem_of_mem_eraseIdx hx)
   have hnV : (X.eraseIdx i0).length ≤ 1000000 := by have := List.length_eraseIdx_le X i0; omega
   generalize (w5.setCell ⟨w.heap.size, 2, none⟩ (.slice s5.a (X.eraseIdx i0).length s5.cap)) = V at *
   clear hc hf hr hlt hc3 hf3 hr3 hlt3
   generalize hX5 : X.eraseIdx i0 = X5 at *
   have hcon := insert26_c s5.a s5.cap X5 r d V hXV (fun x hx => (hmV x hx).later hBV) (he.later hBV) hnV
   refine hcon.mono ?_
   rintro x w7 ⟨s7, rfl, hb7, hd7⟩
   generalize hX7 : insertBy cmpPrin nameX (r, d) X5 = X7 at *
   have hy2 := still_blk hb7 hv2
   have hs7 := hb7.size
   obtain ⟨hc, hf, hr, hlt⟩ := box_facts hy2
   have hset := setCell_blk (o := 1) (.int .i64 (D.serial + 1)) (setCell_blk (o := 2) (.slice s7.a X7.length s7.cap) hy2)
   have hrw0 : row? ((w7.setCell ⟨w.heap.size, 2, none⟩ (.slice s7.a X7.length s7.cap)).setCell ⟨w.heap.size, 1, none⟩ (.int .i64 (D.serial + 1))) w.heap.size 0 4 = some (rdbC s7 q { D with entries := X7.map (·.2), serial := D.serial + 1 }) := (row?_of_cells hset).trans (by rw [show X7.length = (X7.map (·.2)).length from (List.length_map _).symm]; kernel_rfl)
   have hcp : canPut ((w7.setCell ⟨w.heap.size, 2, none⟩ (.slice s7.a X7.length s7.cap)).setCell ⟨w.heap.size, 1, none⟩ (.int .i64 (D.serial + 1))) (w.heap.size + 1 + 1) 0 4 = true := (canPut_setCell_other hne2).trans ((canPut_setCell_other hne2).trans ((bput hb7 (w.heap.size + 1 + 1) 0 4 hsV).trans hvz))
   clear hr
   dsimp only
   go_wp2_with fail
   have hrow := row?_putRow_whole (rdbC_size s7 q { D with entries := X7.map (·.2), serial := D.serial + 1 }) hcp
   refine bodyPost_ret (results_row2 (by rfl) Tryz.underlying50 rfl (by kernel_rfl) rfl hrow) rfl ⟨s7, rfl, Go.WW.Below.putRow (((below_step hBV hb7).setCell (by simp) _).setCell (by simp) _) (by omega), fun y hy => hd7 _ (fun g hg => ?_)⟩
   have hg1 := hg.1
   have hg2 := hg.2
   rw [hy g ⟨by omega, by rw [putRow_size]; simp only [World.setCell, Array.size_modify]; omega⟩, putRow_other (by omega), Below.heap_setCell _ _ _ _ (show g ≠ w.heap.size by omega), Below.heap_setCell _ _ _ _ (show g ≠ w.heap.size by omega)]
end Go.Proofs.YtnpddjmjdpgohaaGreatDoor
