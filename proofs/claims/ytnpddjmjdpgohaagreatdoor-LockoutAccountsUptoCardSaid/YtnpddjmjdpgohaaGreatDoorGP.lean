/- Part P of the proof about watchword's lockout: texts B4 L2 L3. -/
import Derived.Test.YtnpddjmjdpgohaaGreatDoorGO
import Derived.Test.YtnpddjmjdpgohaaGreatDoorGM
import Derived.Test.YtnpddjmjdpgohaaGreatDoorGF
import Derived.Test.YtnpddjmjdpgohaaGreatDoorGH

namespace Go.WW
open Go.RowKit
def CopiedEnt (w : World) (d : Entry) (e : Ending) (w' : World) : Prop := ∃ r : ERaw, e = .returned (.agg (entC r d)) ∧ Below w.heap.size w w' ∧ Dep w' (fresh w.heap.size w') (fun x => EntAt x r d)
theorem run_loadVar_row {P : Program} {T : TypeId} {d : TypeDesc} {n : Nat} (hu : P.underlying T = some d) (hd : d.isRow = true) (hi : (P.info? T).map (·.size) = some n) {w : World} {b o : Nat} {cs : Array Value} (h : row? w b o n = some cs) :
    (loadVar T ⟨b, o, none⟩).run P w = .ok (.agg cs) w := by
  have hs := row?_size h
  have := run_loadVar_mid (P := P) w b o T cs.toList d (row?_rangeAt h) hu hd (by rw [hi]; simp [hs])
  simpa using this
theorem results_row {P : Program} {fn : Func} {a : Tmp} {T : TypeId} {d : TypeDesc} {n : Nat} (hf : fn.results = #[.cell a T]) (hu : P.underlying T = some d) (hd : d.isRow = true) (hi : (P.info? T).map (·.size) = some n) {tmps : Array Value} {w : World} {b o : Nat} {cs : Array Value} (ha : tmps.getD a undef = .pointer (some ⟨b, o, none⟩)) (h : row? w b o n = some cs) :
    (results fn tmps).run P w = .ok (.agg cs) w := by
  have hl := run_loadVar_row hu hd hi h
  have ha' : (asAddr (tmps.getD a undef)).run P w = .ok ⟨b, o, none⟩ w := by rw [ha]; rfl
  rw [Array.getD_eq_getD_getElem?] at ha'
  unfold results
  rw [hf]
  simp [Sem.run_bind, ha', hl, Result.andThen]
theorem results_row2 {P : Program} {fn : Func} {a t : Tmp} {T : TypeId} {d : TypeDesc} {n : Nat} (hf : fn.results = #[.cell a T, .tmp t]) (hu : P.underlying T = some d) (hd : d.isRow = true) (hi : (P.info? T).map (·.size) = some n) {tmps : Array Value} {w : World} {b o : Nat} {cs : Array Value} (ha : tmps.getD a undef = .pointer (some ⟨b, o, none⟩)) (h : row? w b o n = some cs) :
    (results fn tmps).run P w = .ok (.tuple #[.agg cs, tmps.getD t undef]) w := by
  have hl := run_loadVar_row hu hd hi h
  have ha' : (asAddr (tmps.getD a undef)).run P w = .ok ⟨b, o, none⟩ w := by rw [ha]; rfl
  rw [Array.getD_eq_getD_getElem?] at ha'
  unfold results
  rw [hf]
  simp [Sem.run_bind, ha', hl, Result.andThen]
theorem box_facts {w : World} {b : Nat} {c : Array Value} {t : TypeId} (h : w.heap[b]? = some (.cells c t)) : (∀ o, w.cell? ⟨b, o, none⟩ = c[o]?) ∧ (∀ o, w.frozen? ⟨b, o, none⟩ = false) ∧ (∀ o n, row? w b o n = subRow c o n) ∧ (b < w.heap.size) :=
  ⟨fun o => cell_of_row w b o c t _ h, fun o => frozen_of_row w b o c t h, fun _ _ => row?_of_cells h, (Array.getElem?_eq_some_iff.1 h).1⟩
end Go.WW
namespace Go.Proofs.YtnpddjmjdpgohaaGreatDoor
open Go.RowKit Go.WW
set_option maxRecDepth 100000 in
set_option maxHeartbeats 4000000 in
theorem eCopy_c (r : ERaw) (d : Entry) (w : World) (he : EntAt w r d) : Calls Tryz.prog 50 #[.agg (entC r d)] w (CopiedEnt w d) := by
  have hB0 : Below w.heap.size w ((w.alloc (.cells (entC r d) 31)).alloc (.cells #[.slice none 0 0, .string ⟨#[]⟩, .slice none 0 0, .int .u32 0, .int .i64 0, .slice none 0 0, .string ⟨#[]⟩, .int .i64 0, .int .i64 0, .int .i64 0, .int .i64 0, .int .i64 0, .int .i64 0, .int .i64 0, .slice none 0 0, .slice none 0 0, .slice none 0 0] 31)) := ((Below.refl _ w).alloc (Nat.le_refl _) _).alloc (by simp) _
  have hx0 : ((w.alloc (.cells (entC r d) 31)).alloc (.cells #[.slice none 0 0, .string ⟨#[]⟩, .slice none 0 0, .int .u32 0, .int .i64 0, .slice none 0 0, .string ⟨#[]⟩, .int .i64 0, .int .i64 0, .int .i64 0, .int .i64 0, .int .i64 0, .int .i64 0, .int .i64 0, .slice none 0 0, .slice none 0 0, .slice none 0 0] 31)).heap[w.heap.size]? = some (.cells (entC r d) 31) := second_blk w _ _
  have hz0 : canPut ((w.alloc (.cells (entC r d) 31)).alloc (.cells #[.slice none 0 0, .string ⟨#[]⟩, .slice none 0 0, .int .u32 0, .int .i64 0, .slice none 0 0, .string ⟨#[]⟩, .int .i64 0, .int .i64 0, .int .i64 0, .int .i64 0, .int .i64 0, .int .i64 0, .int .i64 0, .slice none 0 0, .slice none 0 0, .slice none 0 0] 31)) (w.heap.size + 1) 0 17 = true := by simp [go_sem]
  have hs0 : w.heap.size + 1 < ((w.alloc (.cells (entC r d) 31)).alloc (.cells #[.slice none 0 0, .string ⟨#[]⟩, .slice none 0 0, .int .u32 0, .int .i64 0, .slice none 0 0, .string ⟨#[]⟩, .int .i64 0, .int .i64 0, .int .i64 0, .int .i64 0, .int .i64 0, .int .i64 0, .int .i64 0, .slice none 0 0, .slice none 0 0, .slice none 0 0] 31)).heap.size := by simp
  have hne : w.heap.size + 1 ≠ w.heap.size := by omega
  go_enter Tryz.func50, Tryz.ntmps50
  go_wp2_with fail
  generalize (w.alloc (.cells (entC r d) 31)).alloc (.cells #[.slice none 0 0, .string ⟨#[]⟩, .slice none 0 0, .int .u32 0, .int .i64 0, .slice none 0 0, .string ⟨#[]⟩, .int .i64 0, .int .i64 0, .int .i64 0, .int .i64 0, .int .i64 0, .int .i64 0, .int .i64 0, .slice none 0 0, .slice none 0 0, .slice none 0 0] 31) = W0 at *
  refine (nameCopy_c _ _ _ (he.name.later hB0)).mono ?_
  rintro e V0 ⟨s0, rfl, hb0, hd0⟩
  have hy0 := (hb0.block w.heap.size (by omega)).trans hx0
  obtain ⟨hc, hf, hr, hlt⟩ := box_facts hy0
  have hx1 : (putRow V0 w.heap.size 0 (prinC s0 d.name)).heap[w.heap.size]? = some (.cells (entC { r with parts := s0 } d) 31) := (putRow_blk hy0 (by simp [go_sem])).trans (by rfl)
  have hcp : canPut V0 w.heap.size 0 2 = true := canPut_of_cells hy0 (by simp [go_sem])
  have hB1 : Below w.heap.size w (putRow V0 w.heap.size 0 (prinC s0 d.name)) := Go.WW.Below.putRow (below_step hB0 hb0) (Nat.le_refl _)
  have hz1 : canPut (putRow V0 w.heap.size 0 (prinC s0 d.name)) (w.heap.size + 1) 0 17 = true := by rw [canPut_putRow_other hne, bput hb0 _ _ _ (by omega)]; exact hz0
  have hs1 : w.heap.size + 1 < (putRow V0 w.heap.size 0 (prinC s0 d.name)).heap.size := by have := hb0.size; rw [putRow_size]; omega
  have hk0_1 : Dep (putRow V0 w.heap.size 0 (prinC s0 d.name)) (fun k => w.heap.size + 1 < k ∧ k < (putRow V0 w.heap.size 0 (prinC s0 d.name)).heap.size) (fun x => PrinAt x s0 d.name) := hd0.to (fun k hk => by have h1 := hk.1; first | exact putRow_other (by omega) | exact Below.heap_setCell _ _ _ _ (by simp; omega)) (fun k hk => ⟨by have h1 := hk.1; omega, by have h2 := hk.2; first | (rw [putRow_size]; exact h2) | (simp only [World.setCell, Array.size_modify]; exact h2)⟩)
  clear hx0 hz0 hs0 hy0 hb0 hd0 hB0
  obtain ⟨hc2, hf2, hr2, hlt2⟩ := box_facts hx1
  have HX := Lib.hid hx1
  clear hx1
  go_wp2_with fail
  have hx1 := HX.out
  clear HX hc hf hr hlt hc2 hf2 hr2 hlt2 hcp
  generalize putRow V0 w.heap.size 0 (prinC s0 d.name) = W1 at *
  refine (copiesPrin_c _ _ _ _ (he.aliases.later hB1)).mono ?_
  rintro e V1 ⟨s1, rfl, hb1, hd1⟩
  have hy1 := (hb1.block w.heap.size (by omega)).trans hx1
  obtain ⟨hc, hf, hr, hlt⟩ := box_facts hy1
  have hx2 : (V1.setCell ⟨w.heap.size, 2, none⟩ (.slice s1.a d.aliases.length s1.cap)).heap[w.heap.size]? = some (.cells (entC { r with parts := s0, aliases := s1 } d) 31) := (setCell_blk _ hy1).trans (by rfl)
  have hB2 : Below w.heap.size w (V1.setCell ⟨w.heap.size, 2, none⟩ (.slice s1.a d.aliases.length s1.cap)) := (below_step hB1 hb1).setCell (Nat.le_refl _) _
  have hz2 : canPut (V1.setCell ⟨w.heap.size, 2, none⟩ (.slice s1.a d.aliases.length s1.cap)) (w.heap.size + 1) 0 17 = true := by rw [canPut_setCell_other hne, bput hb1 _ _ _ (by omega)]; exact hz1
  have hs2 : w.heap.size + 1 < (V1.setCell ⟨w.heap.size, 2, none⟩ (.slice s1.a d.aliases.length s1.cap)).heap.size := by have := hb1.size; simp only [World.setCell, Array.size_modify]; omega
  have hk0_2 : Dep (V1.setCell ⟨w.heap.size, 2, none⟩ (.slice s1.a d.aliases.length s1.cap)) (fun k => w.heap.size + 1 < k ∧ k < (V1.setCell ⟨w.heap.size, 2, none⟩ (.slice s1.a d.aliases.length s1.cap)).heap.size) (fun x => PrinAt x s0 d.name) := hk0_1.to (fun k hk => by have h1 := hk.1; have h2 := hk.2; rw [Below.heap_setCell _ _ _ _ (by simp; omega)]; exact hb1.block k h2) (fun k hk => ⟨hk.1, by have h2 := hk.2; have h3 := hb1.size; simp only [World.setCell, Array.size_modify]; omega⟩)
  have hk1_2 : Dep (V1.setCell ⟨w.heap.size, 2, none⟩ (.slice s1.a d.aliases.length s1.cap)) (fun k => w.heap.size + 1 < k ∧ k < (V1.setCell ⟨w.heap.size, 2, none⟩ (.slice s1.a d.aliases.length s1.cap)).heap.size) (fun x => PrinsAt x s1.a d.aliases) := hd1.to (fun k hk => by have h1 := hk.1; first | exact putRow_other (by omega) | exact Below.heap_setCell _ _ _ _ (by simp; omega)) (fun k hk => ⟨by have h1 := hk.1; omega, by have h2 := hk.2; first | (rw [putRow_size]; exact h2) | (simp only [World.setCell, Array.size_modify]; exact h2)⟩)
  clear hx1 hz1 hs1 hy1 hb1 hd1 hB1 hk0_1
  obtain ⟨hc2, hf2, hr2, hlt2⟩ := box_facts hx2
  have HX := Lib.hid hx2
  clear hx2
  go_wp2_with fail
  have hx2 := HX.out
  clear HX hc hf hr hlt hc2 hf2 hr2 hlt2
  generalize V1.setCell ⟨w.heap.size, 2, none⟩ (.slice s1.a d.aliases.length s1.cap) = W2 at *
  refine (copiesSet_c _ _ _ _ (he.keys.later hB2)).mono ?_
  rintro e V2 ⟨s2, rfl, hb2, hd2⟩
  have hy2 := (hb2.block w.heap.size (by omega)).trans hx2
  obtain ⟨hc, hf, hr, hlt⟩ := box_facts hy2
  have hx3 : (V2.setCell ⟨w.heap.size, 5, none⟩ (.slice s2.a d.keys.length s2.cap)).heap[w.heap.size]? = some (.cells (entC { r with parts := s0, aliases := s1, keys := s2 } d) 31) := (setCell_blk _ hy2).trans (by rfl)
  have hB3 : Below w.heap.size w (V2.setCell ⟨w.heap.size, 5, none⟩ (.slice s2.a d.keys.length s2.cap)) := (below_step hB2 hb2).setCell (Nat.le_refl _) _
  have hz3 : canPut (V2.setCell ⟨w.heap.size, 5, none⟩ (.slice s2.a d.keys.length s2.cap)) (w.heap.size + 1) 0 17 = true := by rw [canPut_setCell_other hne, bput hb2 _ _ _ (by omega)]; exact hz2
  have hs3 : w.heap.size + 1 < (V2.setCell ⟨w.heap.size, 5, none⟩ (.slice s2.a d.keys.length s2.cap)).heap.size := by have := hb2.size; simp only [World.setCell, Array.size_modify]; omega
  have hk0_3 : Dep (V2.setCell ⟨w.heap.size, 5, none⟩ (.slice s2.a d.keys.length s2.cap)) (fun k => w.heap.size + 1 < k ∧ k < (V2.setCell ⟨w.heap.size, 5, none⟩ (.slice s2.a d.keys.length s2.cap)).heap.size) (fun x => PrinAt x s0 d.name) := hk0_2.to (fun k hk => by have h1 := hk.1; have h2 := hk.2; rw [Below.heap_setCell _ _ _ _ (by simp; omega)]; exact hb2.block k h2) (fun k hk => ⟨hk.1, by have h2 := hk.2; have h3 := hb2.size; simp only [World.setCell, Array.size_modify]; omega⟩)
  have hk1_3 : Dep (V2.setCell ⟨w.heap.size, 5, none⟩ (.slice s2.a d.keys.length s2.cap)) (fun k => w.heap.size + 1 < k ∧ k < (V2.setCell ⟨w.heap.size, 5, none⟩ (.slice s2.a d.keys.length s2.cap)).heap.size) (fun x => PrinsAt x s1.a d.aliases) := hk1_2.to (fun k hk => by have h1 := hk.1; have h2 := hk.2; rw [Below.heap_setCell _ _ _ _ (by simp; omega)]; exact hb2.block k h2) (fun k hk => ⟨hk.1, by have h2 := hk.2; have h3 := hb2.size; simp only [World.setCell, Array.size_modify]; omega⟩)
  have hk2_3 : Dep (V2.setCell ⟨w.heap.size, 5, none⟩ (.slice s2.a d.keys.length s2.cap)) (fun k => w.heap.size + 1 < k ∧ k < (V2.setCell ⟨w.heap.size, 5, none⟩ (.slice s2.a d.keys.length s2.cap)).heap.size) (fun x => SetsAt x s2.a d.keys) := hd2.to (fun k hk => by have h1 := hk.1; first | exact putRow_other (by omega) | exact Below.heap_setCell _ _ _ _ (by simp; omega)) (fun k hk => ⟨by have h1 := hk.1; omega, by have h2 := hk.2; first | (rw [putRow_size]; exact h2) | (simp only [World.setCell, Array.size_modify]; exact h2)⟩)
  clear hx2 hz2 hs2 hy2 hb2 hd2 hB2 hk0_2 hk1_2
  obtain ⟨hc2, hf2, hr2, hlt2⟩ := box_facts hx3
  have HX := Lib.hid hx3
  clear hx3
  go_wp2_with fail
  have hx3 := HX.out
  clear HX hc hf hr hlt hc2 hf2 hr2 hlt2
  generalize V2.setCell ⟨w.heap.size, 5, none⟩ (.slice s2.a d.keys.length s2.cap) = W3 at *
  refine (copiesPrin_c _ _ _ _ (he.targets.later hB3)).mono ?_
  rintro e V3 ⟨s3, rfl, hb3, hd3⟩
  have hy3 := (hb3.block w.heap.size (by omega)).trans hx3
  obtain ⟨hc, hf, hr, hlt⟩ := box_facts hy3
  have hx4 : (V3.setCell ⟨w.heap.size, 14, none⟩ (.slice s3.a d.targets.length s3.cap)).heap[w.heap.size]? = some (.cells (entC { r with parts := s0, aliases := s1, keys := s2, targets := s3 } d) 31) := (setCell_blk _ hy3).trans (by rfl)
  have hB4 : Below w.heap.size w (V3.setCell ⟨w.heap.size, 14, none⟩ (.slice s3.a d.targets.length s3.cap)) := (below_step hB3 hb3).setCell (Nat.le_refl _) _
  have hz4 : canPut (V3.setCell ⟨w.heap.size, 14, none⟩ (.slice s3.a d.targets.length s3.cap)) (w.heap.size + 1) 0 17 = true := by rw [canPut_setCell_other hne, bput hb3 _ _ _ (by omega)]; exact hz3
  have hs4 : w.heap.size + 1 < (V3.setCell ⟨w.heap.size, 14, none⟩ (.slice s3.a d.targets.length s3.cap)).heap.size := by have := hb3.size; simp only [World.setCell, Array.size_modify]; omega
  have hk0_4 : Dep (V3.setCell ⟨w.heap.size, 14, none⟩ (.slice s3.a d.targets.length s3.cap)) (fun k => w.heap.size + 1 < k ∧ k < (V3.setCell ⟨w.heap.size, 14, none⟩ (.slice s3.a d.targets.length s3.cap)).heap.size) (fun x => PrinAt x s0 d.name) := hk0_3.to (fun k hk => by have h1 := hk.1; have h2 := hk.2; rw [Below.heap_setCell _ _ _ _ (by simp; omega)]; exact hb3.block k h2) (fun k hk => ⟨hk.1, by have h2 := hk.2; have h3 := hb3.size; simp only [World.setCell, Array.size_modify]; omega⟩)
  have hk1_4 : Dep (V3.setCell ⟨w.heap.size, 14, none⟩ (.slice s3.a d.targets.length s3.cap)) (fun k => w.heap.size + 1 < k ∧ k < (V3.setCell ⟨w.heap.size, 14, none⟩ (.slice s3.a d.targets.length s3.cap)).heap.size) (fun x => PrinsAt x s1.a d.aliases) := hk1_3.to (fun k hk => by have h1 := hk.1; have h2 := hk.2; rw [Below.heap_setCell _ _ _ _ (by simp; omega)]; exact hb3.block k h2) (fun k hk => ⟨hk.1, by have h2 := hk.2; have h3 := hb3.size; simp only [World.setCell, Array.size_modify]; omega⟩)
  have hk2_4 : Dep (V3.setCell ⟨w.heap.size, 14, none⟩ (.slice s3.a d.targets.length s3.cap)) (fun k => w.heap.size + 1 < k ∧ k < (V3.setCell ⟨w.heap.size, 14, none⟩ (.slice s3.a d.targets.length s3.cap)).heap.size) (fun x => SetsAt x s2.a d.keys) := hk2_3.to (fun k hk => by have h1 := hk.1; have h2 := hk.2; rw [Below.heap_setCell _ _ _ _ (by simp; omega)]; exact hb3.block k h2) (fun k hk => ⟨hk.1, by have h2 := hk.2; have h3 := hb3.size; simp only [World.setCell, Array.size_modify]; omega⟩)
  have hk3_4 : Dep (V3.setCell ⟨w.heap.size, 14, none⟩ (.slice s3.a d.targets.length s3.cap)) (fun k => w.heap.size + 1 < k ∧ k < (V3.setCell ⟨w.heap.size, 14, none⟩ (.slice s3.a d.targets.length s3.cap)).heap.size) (fun x => PrinsAt x s3.a d.targets) := hd3.to (fun k hk => by have h1 := hk.1; first | exact putRow_other (by omega) | exact Below.heap_setCell _ _ _ _ (by simp; omega)) (fun k hk => ⟨by have h1 := hk.1; omega, by have h2 := hk.2; first | (rw [putRow_size]; exact h2) | (simp only [World.setCell, Array.size_modify]; exact h2)⟩)
  clear hx3 hz3 hs3 hy3 hb3 hd3 hB3 hk0_3 hk1_3 hk2_3
  obtain ⟨hc2, hf2, hr2, hlt2⟩ := box_facts hx4
  have HX := Lib.hid hx4
  clear hx4
  go_wp2_with fail
  have hx4 := HX.out
  clear HX hc hf hr hlt hc2 hf2 hr2 hlt2
  generalize V3.setCell ⟨w.heap.size, 14, none⟩ (.slice s3.a d.targets.length s3.cap) = W4 at *
  refine (copiesPrin_c _ _ _ _ (he.delegates.later hB4)).mono ?_
  rintro e V4 ⟨s4, rfl, hb4, hd4⟩
  have hy4 := (hb4.block w.heap.size (by omega)).trans hx4
  obtain ⟨hc, hf, hr, hlt⟩ := box_facts hy4
  have hx5 : (V4.setCell ⟨w.heap.size, 15, none⟩ (.slice s4.a d.delegates.length s4.cap)).heap[w.heap.size]? = some (.cells (entC { r with parts := s0, aliases := s1, keys := s2, targets := s3, delegates := s4 } d) 31) := (setCell_blk _ hy4).trans (by rfl)
  have hB5 : Below w.heap.size w (V4.setCell ⟨w.heap.size, 15, none⟩ (.slice s4.a d.delegates.length s4.cap)) := (below_step hB4 hb4).setCell (Nat.le_refl _) _
  have hz5 : canPut (V4.setCell ⟨w.heap.size, 15, none⟩ (.slice s4.a d.delegates.length s4.cap)) (w.heap.size + 1) 0 17 = true := by rw [canPut_setCell_other hne, bput hb4 _ _ _ (by omega)]; exact hz4
  have hs5 : w.heap.size + 1 < (V4.setCell ⟨w.heap.size, 15, none⟩ (.slice s4.a d.delegates.length s4.cap)).heap.size := by have := hb4.size; simp only [World.setCell, Array.size_modify]; omega
  have hk0_5 : Dep (V4.setCell ⟨w.heap.size, 15, none⟩ (.slice s4.a d.delegates.length s4.cap)) (fun k => w.heap.size + 1 < k ∧ k < (V4.setCell ⟨w.heap.size, 15, none⟩ (.slice s4.a d.delegates.length s4.cap)).heap.size) (fun x => PrinAt x s0 d.name) := hk0_4.to (fun k hk => by have h1 := hk.1; have h2 := hk.2; rw [Below.heap_setCell _ _ _ _ (by simp; omega)]; exact hb4.block k h2) (fun k hk => ⟨hk.1, by have h2 := hk.2; have h3 := hb4.size; simp only [World.setCell, Array.size_modify]; omega⟩)
  have hk1_5 : Dep (V4.setCell ⟨w.heap.size, 15, none⟩ (.slice s4.a d.delegates.length s4.cap)) (fun k => w.heap.size + 1 < k ∧ k < (V4.setCell ⟨w.heap.size, 15, none⟩ (.slice s4.a d.delegates.length s4.cap)).heap.size) (fun x => PrinsAt x s1.a d.aliases) := hk1_4.to (fun k hk => by have h1 := hk.1; have h2 := hk.2; rw [Below.heap_setCell _ _ _ _ (by simp; omega)]; exact hb4.block k h2) (fun k hk => ⟨hk.1, by have h2 := hk.2; have h3 := hb4.size; simp only [World.setCell, Array.size_modify]; omega⟩)
  have hk2_5 : Dep (V4.setCell ⟨w.heap.size, 15, none⟩ (.slice s4.a d.delegates.length s4.cap)) (fun k => w.heap.size + 1 < k ∧ k < (V4.setCell ⟨w.heap.size, 15, none⟩ (.slice s4.a d.delegates.length s4.cap)).heap.size) (fun x => SetsAt x s2.a d.keys) := hk2_4.to (fun k hk => by have h1 := hk.1; have h2 := hk.2; rw [Below.heap_setCell _ _ _ _ (by simp; omega)]; exact hb4.block k h2) (fun k hk => ⟨hk.1, by have h2 := hk.2; have h3 := hb4.size; simp only [World.setCell, Array.size_modify]; omega⟩)
  have hk3_5 : Dep (V4.setCell ⟨w.heap.size, 15, none⟩ (.slice s4.a d.delegates.length s4.cap)) (fun k => w.heap.size + 1 < k ∧ k < (V4.setCell ⟨w.heap.size, 15, none⟩ (.slice s4.a d.delegates.length s4.cap)).heap.size) (fun x => PrinsAt x s3.a d.targets) := hk3_4.to (fun k hk => by have h1 := hk.1; have h2 := hk.2; rw [Below.heap_setCell _ _ _ _ (by simp; omega)]; exact hb4.block k h2) (fun k hk => ⟨hk.1, by have h2 := hk.2; have h3 := hb4.size; simp only [World.setCell, Array.size_modify]; omega⟩)
  have hk4_5 : Dep (V4.setCell ⟨w.heap.size, 15, none⟩ (.slice s4.a d.delegates.length s4.cap)) (fun k => w.heap.size + 1 < k ∧ k < (V4.setCell ⟨w.heap.size, 15, none⟩ (.slice s4.a d.delegates.length s4.cap)).heap.size) (fun x => PrinsAt x s4.a d.delegates) := hd4.to (fun k hk => by have h1 := hk.1; first | exact putRow_other (by omega) | exact Below.heap_setCell _ _ _ _ (by simp; omega)) (fun k hk => ⟨by have h1 := hk.1; omega, by have h2 := hk.2; first | (rw [putRow_size]; exact h2) | (simp only [World.setCell, Array.size_modify]; exact h2)⟩)
  clear hx4 hz4 hs4 hy4 hb4 hd4 hB4 hk0_4 hk1_4 hk2_4 hk3_4
  obtain ⟨hc2, hf2, hr2, hlt2⟩ := box_facts hx5
  have HX := Lib.hid hx5
  clear hx5
  go_wp2_with fail
  have hx5 := HX.out
  clear HX hc hf hr hlt hc2 hf2 hr2 hlt2
  generalize V4.setCell ⟨w.heap.size, 15, none⟩ (.slice s4.a d.delegates.length s4.cap) = W5 at *
  refine (copiesHist_c _ _ _ _ (he.history.later hB5)).mono ?_
  rintro e V5 ⟨s5, rfl, hb5, hd5⟩
  have hy5 := (hb5.block w.heap.size (by omega)).trans hx5
  obtain ⟨hc, hf, hr, hlt⟩ := box_facts hy5
  have hx6 : (V5.setCell ⟨w.heap.size, 16, none⟩ (.slice s5.a d.history.length s5.cap)).heap[w.heap.size]? = some (.cells (entC { r with parts := s0, aliases := s1, keys := s2, targets := s3, delegates := s4, history := s5 } d) 31) := (setCell_blk _ hy5).trans (by rfl)
  have hB6 : Below w.heap.size w (V5.setCell ⟨w.heap.size, 16, none⟩ (.slice s5.a d.history.length s5.cap)) := (below_step hB5 hb5).setCell (Nat.le_refl _) _
  have hz6 : canPut (V5.setCell ⟨w.heap.size, 16, none⟩ (.slice s5.a d.history.length s5.cap)) (w.heap.size + 1) 0 17 = true := by rw [canPut_setCell_other hne, bput hb5 _ _ _ (by omega)]; exact hz5
  have hs6 : w.heap.size + 1 < (V5.setCell ⟨w.heap.size, 16, none⟩ (.slice s5.a d.history.length s5.cap)).heap.size := by have := hb5.size; simp only [World.setCell, Array.size_modify]; omega
  have hk0_6 : Dep (V5.setCell ⟨w.heap.size, 16, none⟩ (.slice s5.a d.history.length s5.cap)) (fun k => w.heap.size + 1 < k ∧ k < (V5.setCell ⟨w.heap.size, 16, none⟩ (.slice s5.a d.history.length s5.cap)).heap.size) (fun x => PrinAt x s0 d.name) := hk0_5.to (fun k hk => by have h1 := hk.1; have h2 := hk.2; rw [Below.heap_setCell _ _ _ _ (by simp; omega)]; exact hb5.block k h2) (fun k hk => ⟨hk.1, by have h2 := hk.2; have h3 := hb5.size; simp only [World.setCell, Array.size_modify]; omega⟩)
  have hk1_6 : Dep (V5.setCell ⟨w.heap.size, 16, none⟩ (.slice s5.a d.history.length s5.cap)) (fun k => w.heap.size + 1 < k ∧ k < (V5.setCell ⟨w.heap.size, 16, none⟩ (.slice s5.a d.history.length s5.cap)).heap.size) (fun x => PrinsAt x s1.a d.aliases) := hk1_5.to (fun k hk => by have h1 := hk.1; have h2 := hk.2; rw [Below.heap_setCell _ _ _ _ (by simp; omega)]; exact hb5.block k h2) (fun k hk => ⟨hk.1, by have h2 := hk.2; have h3 := hb5.size; simp only [World.setCell, Array.size_modify]; omega⟩)
  have hk2_6 : Dep (V5.setCell ⟨w.heap.size, 16, none⟩ (.slice s5.a d.history.length s5.cap)) (fun k => w.heap.size + 1 < k ∧ k < (V5.setCell ⟨w.heap.size, 16, none⟩ (.slice s5.a d.history.length s5.cap)).heap.size) (fun x => SetsAt x s2.a d.keys) := hk2_5.to (fun k hk => by have h1 := hk.1; have h2 := hk.2; rw [Below.heap_setCell _ _ _ _ (by simp; omega)]; exact hb5.block k h2) (fun k hk => ⟨hk.1, by have h2 := hk.2; have h3 := hb5.size; simp only [World.setCell, Array.size_modify]; omega⟩)
  have hk3_6 : Dep (V5.setCell ⟨w.heap.size, 16, none⟩ (.slice s5.a d.history.length s5.cap)) (fun k => w.heap.size + 1 < k ∧ k < (V5.setCell ⟨w.heap.size, 16, none⟩ (.slice s5.a d.history.length s5.cap)).heap.size) (fun x => PrinsAt x s3.a d.targets) := hk3_5.to (fun k hk => by have h1 := hk.1; have h2 := hk.2; rw [Below.heap_setCell _ _ _ _ (by simp; omega)]; exact hb5.block k h2) (fun k hk => ⟨hk.1, by have h2 := hk.2; have h3 := hb5.size; simp only [World.setCell, Array.size_modify]; omega⟩)
  have hk4_6 : Dep (V5.setCell ⟨w.heap.size, 16, none⟩ (.slice s5.a d.history.length s5.cap)) (fun k => w.heap.size + 1 < k ∧ k < (V5.setCell ⟨w.heap.size, 16, none⟩ (.slice s5.a d.history.length s5.cap)).heap.size) (fun x => PrinsAt x s4.a d.delegates) := hk4_5.to (fun k hk => by have h1 := hk.1; have h2 := hk.2; rw [Below.heap_setCell _ _ _ _ (by simp; omega)]; exact hb5.block k h2) (fun k hk => ⟨hk.1, by have h2 := hk.2; have h3 := hb5.size; simp only [World.setCell, Array.size_modify]; omega⟩)
  have hk5_6 : Dep (V5.setCell ⟨w.heap.size, 16, none⟩ (.slice s5.a d.history.length s5.cap)) (fun k => w.heap.size + 1 < k ∧ k < (V5.setCell ⟨w.heap.size, 16, none⟩ (.slice s5.a d.history.length s5.cap)).heap.size) (fun x => HistAt x s5.a d.history) := hd5.to (fun k hk => by have h1 := hk.1; first | exact putRow_other (by omega) | exact Below.heap_setCell _ _ _ _ (by simp; omega)) (fun k hk => ⟨by have h1 := hk.1; omega, by have h2 := hk.2; first | (rw [putRow_size]; exact h2) | (simp only [World.setCell, Array.size_modify]; exact h2)⟩)
  clear hx5 hz5 hs5 hy5 hb5 hd5 hB5 hk0_5 hk1_5 hk2_5 hk3_5 hk4_5
  obtain ⟨hc2, hf2, hr2, hlt2⟩ := box_facts hx6
  have HX := Lib.hid hx6
  clear hx6
  go_wp2_with fail
  have hrow := row?_putRow_whole (w := V5.setCell ⟨w.heap.size, 16, none⟩ (.slice s5.a d.history.length s5.cap)) (entC_size { parts := s0, aliases := s1, keys := s2, targets := s3, delegates := s4, history := s5 } d) hz6
  have hKK : ∀ k, w.heap.size + 1 < k ∧ k < (V5.setCell ⟨w.heap.size, 16, none⟩ (.slice s5.a d.history.length s5.cap)).heap.size → (putRow (V5.setCell ⟨w.heap.size, 16, none⟩ (.slice s5.a d.history.length s5.cap)) (w.heap.size + 1) 0 (entC { parts := s0, aliases := s1, keys := s2, targets := s3, delegates := s4, history := s5 } d)).heap[k]? = (V5.setCell ⟨w.heap.size, 16, none⟩ (.slice s5.a d.history.length s5.cap)).heap[k]? := fun k hk => putRow_other (by omega)
  refine bodyPost_ret (results_row (by rfl) Tryz.underlying31 rfl (by kernel_rfl) rfl hrow) rfl ⟨{ parts := s0, aliases := s1, keys := s2, targets := s3, delegates := s4, history := s5 }, rfl, Go.WW.Below.putRow hB6 (by omega), ?_⟩
  intro x hx
  have hX := fun k (hk : w.heap.size + 1 < k ∧ k < (V5.setCell ⟨w.heap.size, 16, none⟩ (.slice s5.a d.history.length s5.cap)).heap.size) => (hx k ⟨by omega, by rw [putRow_size]; exact hk.2⟩).trans (hKK k hk)
  exact ⟨hk0_6 _ hX, hk1_6 _ hX, hk2_6 _ hX, hk3_6 _ hX, hk4_6 _ hX, hk5_6 _ hX, he.policy, he.attrs⟩
end Go.Proofs.YtnpddjmjdpgohaaGreatDoor

namespace Go.WW
theorem okAll_small {d : Entry} {p : Policy} {now : Int} (h : okAll d p now = true) : Small d p ∧ 0 ≤ now ∧ now ≤ 1099511627776 ∧ p.fails ≤ 1000 := by
  simp only [okAll, entryOk, polOk, entTimes, isTime, btw, Bool.and_eq_true, decide_eq_true_eq] at h
  obtain ⟨⟨he, hp⟩, hn⟩ := h
  exact ⟨⟨by omega, by omega, by omega, by omega, by omega, by omega, by omega, by omega, by omega⟩, by omega, by omega, by omega⟩
end Go.WW
namespace Go.Proofs.YtnpddjmjdpgohaaGreatDoor
open Go.RowKit Go.WW
set_option maxRecDepth 100000 in
set_option maxHeartbeats 1000000 in
theorem lvalid_c (r : ERaw) (d : Entry) (p : Policy) (now : Int) (w : World) (he : EntAt w r d) (hs : p.name.size ≤ lim) :
    Calls Tryz.prog 27 #[.agg (entC r d), .agg (polC p), .int .i64 now] w fun e w' => e = .returned (.bool (okAll d p now)) ∧ Below w.heap.size w w' := by
  go_enter Tryz.func27, Tryz.ntmps27
  have hB : Below w.heap.size w ((w.alloc (.cells (entC r d) 31)).alloc (.cells (polC p) 33)) := ((Below.refl _ _).alloc (Nat.le_refl _) _).alloc (by simp) _
  go_wp2_with fail
  refine (eValid_c _ _ _ (he.later hB)).mono ?_
  rintro e w2 ⟨rfl, hb2⟩
  have hB2 := hB.trans (hb2.mono (by simp; omega))
  obtain ⟨hc, hf, hr⟩ := bcell hb2
  have hsz : w.heap.size + 1 < w2.heap.size := by have := hb2.size; simp at this; omega
  cases h1 : entryOk d
  · have HN := Lib.hid (okAll_no1 (p := p) (now := now) h1)
    go_wp2_with fail
    all_goals go_ret
    all_goals exact ⟨by rw [HN.out]; rfl, hB2⟩
  go_wp2_with fail
  refine (pvalid_c _ _ hs).mono ?_
  rintro e w3 ⟨rfl, hb3⟩
  have hB3 := hB2.trans (hb3.mono hB2.size)
  cases h2 : polOk p
  · have HN := Lib.hid (okAll_no2 (d := d) (now := now) h2)
    go_wp2_with fail
    all_goals go_ret
    all_goals exact ⟨by rw [HN.out]; rfl, hB3⟩
  have HN := Lib.hid (okAll_end (now := now) h1 h2)
  go_wp2_with (go_at_call 42; refine (validTime_c _ _).mono ?_; rintro e w' ⟨rfl, rfl⟩)
  all_goals go_ret
  all_goals exact ⟨by rw [HN.out]; rfl, hB3⟩

set_option maxRecDepth 100000 in
set_option maxHeartbeats 1000000 in
theorem lCount_c (r : ERaw) (d : Entry) (p : Policy) (now : Int) (w : World) (he : EntAt w r d) (hs : p.name.size ≤ lim) :
    Calls Tryz.prog 7 #[.agg (entC r d), .agg (polC p), .int .i64 now] w fun e w' => e = .returned (.tuple #[.int .i64 (if okAll d p now then countOf d p now else 0), .int .i64 (if okAll d p now then 0 else 2)]) ∧ Below w.heap.size w w' := by
  go_enter Tryz.func7, Tryz.ntmps7
  have hB : Below w.heap.size w ((w.alloc (.cells (entC r d) 31)).alloc (.cells (polC p) 33)) := ((Below.refl _ _).alloc (Nat.le_refl _) _).alloc (by simp) _
  go_wp2_with fail
  refine (lvalid_c _ _ _ _ _ (he.later hB) hs).mono ?_
  rintro e w2 ⟨rfl, hb2⟩
  have hB2 := hB.trans (hb2.mono (by simp; omega))
  obtain ⟨hc, hf, hr⟩ := bcell hb2
  have hsz : w.heap.size + 1 < w2.heap.size := by have := hb2.size; simp at this; omega
  cases h1 : okAll d p now
  · go_wp2_with fail
    all_goals go_ret2
    all_goals exact ⟨rfl, hB2⟩
  obtain ⟨hsm, -, -, -⟩ := okAll_small h1
  go_wp2_with fail
  refine (acount_c _ _ _ _ _ hsm).mono ?_
  rintro e w3 ⟨rfl, hb3⟩
  go_wp2_with fail
  all_goals go_ret2
  all_goals exact ⟨rfl, below_step hB2 hb3⟩

set_option maxRecDepth 100000 in
set_option maxHeartbeats 1000000 in
theorem lLocked_c (r : ERaw) (d : Entry) (p : Policy) (now : Int) (w : World) (he : EntAt w r d) (hs : p.name.size ≤ lim) :
    Calls Tryz.prog 8 #[.agg (entC r d), .agg (polC p), .int .i64 now] w fun e w' => e = .returned (.tuple #[.bool (okAll d p now && lockedAt d p now), .int .i64 (if okAll d p now then 0 else 2)]) ∧ Below w.heap.size w w' := by
  go_enter Tryz.func8, Tryz.ntmps8
  have hB : Below w.heap.size w ((w.alloc (.cells (entC r d) 31)).alloc (.cells (polC p) 33)) := ((Below.refl _ _).alloc (Nat.le_refl _) _).alloc (by simp) _
  go_wp2_with fail
  refine (lvalid_c _ _ _ _ _ (he.later hB) hs).mono ?_
  rintro e w2 ⟨rfl, hb2⟩
  have hB2 := hB.trans (hb2.mono (by simp; omega))
  obtain ⟨hc, hf, hr⟩ := bcell hb2
  have hsz : w.heap.size + 1 < w2.heap.size := by have := hb2.size; simp at this; omega
  cases h1 : okAll d p now
  · go_wp2_with fail
    all_goals go_ret2
    all_goals exact ⟨rfl, hB2⟩
  obtain ⟨hsm, -, -, -⟩ := okAll_small h1
  go_wp2_with fail
  refine (alocked_c _ _ _ _ _ hsm).mono ?_
  rintro e w3 ⟨rfl, hb3⟩
  go_wp2_with fail
  all_goals go_ret2
  all_goals exact ⟨rfl, below_step hB2 hb3⟩

set_option maxRecDepth 100000 in
set_option maxHeartbeats 1000000 in
theorem lUntil_c (r : ERaw) (d : Entry) (p : Policy) (now : Int) (w : World) (he : EntAt w r d) (hs : p.name.size ≤ lim) :
    Calls Tryz.prog 9 #[.agg (entC r d), .agg (polC p), .int .i64 now] w fun e w' => e = .returned (.tuple #[.int .i64 (if okAll d p now && lockedAt d p now then untilOf d p else 0), .int .i64 (if okAll d p now then (if lockedAt d p now then 0 else 8) else 2)]) ∧ Below w.heap.size w w' := by
  go_enter Tryz.func9, Tryz.ntmps9
  have hB : Below w.heap.size w ((w.alloc (.cells (entC r d) 31)).alloc (.cells (polC p) 33)) := ((Below.refl _ _).alloc (Nat.le_refl _) _).alloc (by simp) _
  go_wp2_with fail
  refine (lvalid_c _ _ _ _ _ (he.later hB) hs).mono ?_
  rintro e w2 ⟨rfl, hb2⟩
  have hB2 := hB.trans (hb2.mono (by simp; omega))
  obtain ⟨hc, hf, hr⟩ := bcell hb2
  have hsz : w.heap.size + 1 < w2.heap.size := by have := hb2.size; simp at this; omega
  cases h1 : okAll d p now
  · go_wp2_with fail
    all_goals go_ret2
    all_goals exact ⟨rfl, hB2⟩
  obtain ⟨hsm, -, -, -⟩ := okAll_small h1
  obtain ⟨l0, l1, f0, f1, x0, x1, k0, k1, m0⟩ := hsm
  have hsm : Small d p := ⟨l0, l1, f0, f1, x0, x1, k0, k1, m0⟩
  go_wp2_with fail
  refine (alocked_c _ _ _ _ _ hsm).mono ?_
  rintro e w3 ⟨rfl, hb3⟩
  have hb3' := below_step hb2 hb3
  have hB3 := below_step hB2 hb3
  clear hc hf hr hsz
  obtain ⟨hc, hf, hr⟩ := bcell hb3'
  have hsz : w.heap.size + 1 < w3.heap.size := by have := hb3'.size; simp at this; omega
  cases h2 : lockedAt d p now
  · go_wp2_with fail
    all_goals go_ret2
    all_goals exact ⟨rfl, hB3⟩
  go_wp2_with fail
  clear hc hf hr hsz
  by_cases hq : p.lock = 0
  · have HX := Lib.hid (show untilOf d p = 0 by rw [untilOf, if_pos hq])
    have hq' : (p.lock == 0) = true := by simp [hq]
    clear hq
    refine wp_region_since hb3' (by kernel_rfl) (by kernel_rfl) ?_
    intro w4 hb4
    obtain ⟨hc, hf, hr⟩ := bcell hb4
    have hsz : w.heap.size + 1 < w4.heap.size := by have := hb4.size; simp at this; omega
    repeat (first | (refine text_skip (by rfl) ?_) | (refine text_look (by rfl) (by rfl) (fun K hK => ?_); go_big_quiet_op; refine hK _ ?_; clear hK K))
    refine text_act (by rfl) (by rfl) (fun K hK => ?_)
    go_wp2_with fail
    have hb5 := below_new hb4 (.cells #[.int .i64 d.lastFail, .int .i64 p.lock] 3)
    refine hK _ _ (since_of hb5) ?_
    clear hK K
    repeat (first | (refine text_skip (by rfl) ?_) | (refine text_look (by rfl) (by rfl) (fun K hK => ?_); go_big_quiet_op; refine hK _ ?_; clear hK K))
    refine text_act (by rfl) (by rfl) (fun K hK => ?_)
    go_wp2_with fail
    refine (sum_c _ _ d.lastFail p.lock _ (by simp [go_sem]) (by simp [go_sem]) ⟨l0, l1⟩ ⟨k0, k1⟩).mono ?_
    rintro e w5 ⟨rfl, rfl⟩
    go_wp2_with fail
    refine hK _ _ (since_of hb5) ?_
    clear hK K
    repeat (first | (refine text_skip (by rfl) ?_) | (refine text_look (by rfl) (by rfl) (fun K hK => ?_); go_big_quiet_op; refine hK _ ?_; clear hK K))
    refine text_act (by rfl) (by rfl) (fun K hK => ?_)
    go_wp2_with fail
    refine (chooseInt_c _ _ _ _).mono ?_
    rintro e w6 ⟨rfl, rfl⟩
    go_wp2_with fail
    refine hK _ _ (since_of hb5) ?_
    clear hK K
    repeat (first | (refine text_skip (by rfl) ?_) | (refine text_look (by rfl) (by rfl) (fun K hK => ?_); go_big_quiet_op; refine hK _ ?_; clear hK K))
    refine text_nil ?_
    go_wp2_with fail
    all_goals go_ret2
    all_goals exact ⟨by rw [HX.out]; rfl, hB.trans (hb5.mono (by simp; omega))⟩
  · have HX := Lib.hid (show untilOf d p = min (d.lastFail + p.lock) 1099511627776 by rw [untilOf, if_neg hq])
    have hq' : (p.lock == 0) = false := by simp [hq]
    clear hq
    refine wp_region_since hb3' (by kernel_rfl) (by kernel_rfl) ?_
    intro w4 hb4
    obtain ⟨hc, hf, hr⟩ := bcell hb4
    have hsz : w.heap.size + 1 < w4.heap.size := by have := hb4.size; simp at this; omega
    repeat (first | (refine text_skip (by rfl) ?_) | (refine text_look (by rfl) (by rfl) (fun K hK => ?_); go_big_quiet_op; refine hK _ ?_; clear hK K))
    refine text_act (by rfl) (by rfl) (fun K hK => ?_)
    go_wp2_with fail
    have hb5 := below_new hb4 (.cells #[.int .i64 d.lastFail, .int .i64 p.lock] 3)
    refine hK _ _ (since_of hb5) ?_
    clear hK K
    repeat (first | (refine text_skip (by rfl) ?_) | (refine text_look (by rfl) (by rfl) (fun K hK => ?_); go_big_quiet_op; refine hK _ ?_; clear hK K))
    refine text_act (by rfl) (by rfl) (fun K hK => ?_)
    go_wp2_with fail
    refine (sum_c _ _ d.lastFail p.lock _ (by simp [go_sem]) (by simp [go_sem]) ⟨l0, l1⟩ ⟨k0, k1⟩).mono ?_
    rintro e w5 ⟨rfl, rfl⟩
    go_wp2_with fail
    refine hK _ _ (since_of hb5) ?_
    clear hK K
    repeat (first | (refine text_skip (by rfl) ?_) | (refine text_look (by rfl) (by rfl) (fun K hK => ?_); go_big_quiet_op; refine hK _ ?_; clear hK K))
    refine text_act (by rfl) (by rfl) (fun K hK => ?_)
    go_wp2_with fail
    refine (chooseInt_c _ _ _ _).mono ?_
    rintro e w6 ⟨rfl, rfl⟩
    go_wp2_with fail
    refine hK _ _ (since_of hb5) ?_
    clear hK K
    repeat (first | (refine text_skip (by rfl) ?_) | (refine text_look (by rfl) (by rfl) (fun K hK => ?_); go_big_quiet_op; refine hK _ ?_; clear hK K))
    refine text_nil ?_
    go_wp2_with fail
    all_goals go_ret2
    all_goals exact ⟨by rw [HX.out]; rfl, hB.trans (hb5.mono (by simp; omega))⟩

end Go.Proofs.YtnpddjmjdpgohaaGreatDoor

namespace Go.WW
open Go.RowKit
theorem count_bounds {d : Entry} {p : Policy} (now : Int) (h : Small d p) : 0 ≤ countOf d p now ∧ countOf d p now ≤ 65535 := by
  have h1 := h.f0
  have h2 := h.f1
  unfold countOf
  repeat' split
  all_goals omega
def failsOf (d : Entry) (p : Policy) (s : Bool) (now : Int) : Int := if s then 0 else min (countOf d p now + 1) 65535
def lastFailOf (d : Entry) (s : Bool) (now : Int) : Int := if s then d.lastFail else now
def lastOkOf (d : Entry) (s : Bool) (now : Int) : Int := if s then now else d.lastSuccess
def attempted (d : Entry) (p : Policy) (s : Bool) (now : Int) : Entry := { d with fails := failsOf d p s now, lastFail := lastFailOf d s now, lastSuccess := lastOkOf d s now }
def zeroSl : Sl := ⟨none, 0⟩
def zeroR : ERaw := ⟨zeroSl, zeroSl, zeroSl, zeroSl, zeroSl, zeroSl⟩
def zeroD : Entry := ⟨⟨[], ⟨#[]⟩⟩, [], 0, 0, [], ⟨#[]⟩, 0, 0, 0, 0, 0, 0, 0, [], [], []⟩
theorem zeroE_lit : entC zeroR zeroD = #[.slice none 0 0, .string ⟨#[]⟩, .slice none 0 0, .int .u32 0, .int .i64 0, .slice none 0 0, .string ⟨#[]⟩, .int .i64 0, .int .i64 0, .int .i64 0, .int .i64 0, .int .i64 0, .int .i64 0, .int .i64 0, .slice none 0 0, .slice none 0 0, .slice none 0 0] := rfl
theorem zeroE_at (w : World) : EntAt w zeroR zeroD :=
  ⟨⟨⟨by simp [zeroD, lim], fun i hi => by simp [zeroD] at hi⟩, Nat.zero_le _⟩, ⟨by simp [zeroD, lim], fun i hi => by simp [zeroD] at hi⟩, ⟨by simp [zeroD, lim], fun i hi => by simp [zeroD] at hi⟩, ⟨by simp [zeroD, lim], fun i hi => by simp [zeroD] at hi⟩, ⟨by simp [zeroD, lim], fun i hi => by simp [zeroD] at hi⟩, ⟨by simp [zeroD, lim], fun i hi => by simp [zeroD] at hi⟩, Nat.zero_le _, by simp [zeroD]⟩
def EntOut (w : World) (d : Entry) (no : Int) (e : Ending) (w' : World) : Prop := ∃ r, e = .returned (.tuple #[.agg (entC r d), .int .i64 no]) ∧ Below w.heap.size w w' ∧ Dep w' (fresh w.heap.size w') (fun x => EntAt x r d)
end Go.WW
namespace Go.Proofs.YtnpddjmjdpgohaaGreatDoor
open Go.RowKit Go.WW
theorem execOp_buildE0 (ρ : Operand → Value) (dst : Option Tmp) (ty : TypeId) (pos : String) (after : Array Edge) (guard : Option (Nat × Bool)) : execOp ρ { dst, op := .build 31 #[], type := ty, pos, after, guard } = structBuild 31 #[] := by simp [execOp, structBuild]
theorem buildE0 (w : World) : (structBuild 31 #[]).run Tryz.prog w = .ok (.value (.agg (entC zeroR zeroD))) w := by kernel_rfl
attribute [go_sem] buildE0
attribute [go_sem ↓] execOp_buildE0
set_option maxRecDepth 100000 in
set_option maxHeartbeats 1000000 in
theorem aattempt_c (r : ERaw) (d : Entry) (p : Policy) (s : Bool) (now : Int) (w : World) (hs : Small d p) :
    Calls Tryz.prog 51 #[.agg (accC r d p), .bool s, .int .i64 now] w fun e w' => e = .returned (.tuple #[.int .i64 (failsOf d p s now), .int .i64 (lastFailOf d s now), .int .i64 (lastOkOf d s now)]) ∧ Below w.heap.size w w' := by
  obtain ⟨hc0, hc1⟩ := count_bounds now hs
  have hB : Below w.heap.size w (w.alloc (.cells (accC r d p) 72)) := (Below.refl _ _).alloc (Nat.le_refl _) _
  go_enter Tryz.func51, Tryz.ntmps51
  go_wp2_with fail
  refine (acount_c _ _ _ _ _ hs).mono ?_
  rintro e w2 ⟨rfl, hb2⟩
  obtain ⟨hc, hf, hr⟩ := bcell hb2
  have hsz : w.heap.size < w2.heap.size := by have := hb2.size; simp at this; omega
  have HF := Lib.hid (show failsOf d p s now = if s then 0 else min (countOf d p now + 1) 65535 from rfl)
  generalize countOf d p now = c at *
  cases s
  · go_wp2_with (go_at_call 30; refine (chooseInt_c _ _ _ _).mono ?_; rintro e w' ⟨rfl, rfl⟩)
    refine wp_region_later hb2 (by kernel_rfl) (by kernel_rfl) ?_
    repeat (go_big_quiet_step ((go_at_call 30; exact Calls.later_same (chooseInt_c _ _ _ _))))
    refine wpQuiet_nil ?_
    intro w3 hb3
    go_wp2_with fail
    go_ret3
    exact ⟨by rw [HF.out]; rfl, hB.trans (hb3.mono (by simp))⟩
  · go_wp2_with (go_at_call 30; refine (chooseInt_c _ _ _ _).mono ?_; rintro e w' ⟨rfl, rfl⟩)
    refine wp_region_later hb2 (by kernel_rfl) (by kernel_rfl) ?_
    repeat (go_big_quiet_step ((go_at_call 30; exact Calls.later_same (chooseInt_c _ _ _ _))))
    refine wpQuiet_nil ?_
    intro w3 hb3
    go_wp2_with fail
    go_ret3
    exact ⟨by rw [HF.out]; rfl, hB.trans (hb3.mono (by simp))⟩
set_option maxRecDepth 100000 in
set_option maxHeartbeats 1000000 in
theorem lUnlock_yes (r : ERaw) (d : Entry) (w : World) (he : EntAt w r d) (h1 : entryOk d = true) : Calls Tryz.prog 26 #[.agg (entC r d)] w (EntOut w { d with fails := 0 } 0) := by
  have hB : Below w.heap.size w ((w.alloc (.cells (entC r d) 31)).alloc (.cells (entC zeroR zeroD) 31)) := ((Below.refl _ _).alloc (Nat.le_refl _) _).alloc (by simp) _
  have hz : canPut ((w.alloc (.cells (entC r d) 31)).alloc (.cells (entC zeroR zeroD) 31)) (w.heap.size + 1) 0 17 = true := by simp [go_sem]
  go_enter Tryz.func26, Tryz.ntmps26
  go_wp2_with fail
  rw [← zeroE_lit]
  refine (eValid_c _ _ _ (he.later hB)).mono ?_
  rintro e w2 ⟨rfl, hb2⟩
  have hB2 := below_step hB hb2
  obtain ⟨hc, hf, hr⟩ := bcell hb2
  have hpp := bput hb2
  have hsz : w.heap.size + 1 < w2.heap.size := by have := hb2.size; simp at this; omega
  have hsz0 : w.heap.size < w2.heap.size := by omega
  have hne : w.heap.size + 1 ≠ w.heap.size := by omega
  rw [h1]
  go_wp2_with fail
  refine (eCopy_c _ _ _ (he.later hB2)).mono ?_
  rintro e w3 ⟨r', rfl, hb3, hd3⟩
  have hb3' := below_step hb2 hb3
  have hB3 := below_step hB2 hb3
  clear hc hf hr hpp hsz hsz0
  obtain ⟨hc, hf, hr⟩ := bcell hb3'
  have hpp := bput hb3'
  have hsz : w.heap.size + 1 < w3.heap.size := by have := hb3'.size; simp at this; omega
  have hsz0 : w.heap.size < w3.heap.size := by omega
  go_wp2_with fail
  have hrow := row?_putRow_whole (w := w3.alloc (.cells (entC r' { d with fails := 0 }) 31)) (entC_size r' { d with fails := 0 }) ((canPut_alloc_past hsz).trans ((hpp (w.heap.size + 1) 0 17 (by simp)).trans hz))
  refine bodyPost_ret (results_row2 (by rfl) Tryz.underlying31 rfl (by kernel_rfl) rfl hrow) rfl ⟨r', rfl, Go.WW.Below.putRow (hB3.alloc hB3.size _) (by omega), fun x hx => ?_⟩
  have h := hd3 x (fun k hk => by
    have h9 := hk.1
    have h8 := hk.2
    have h7 := hb2.size
    simp at h7
    rw [hx k ⟨by omega, by rw [putRow_size]; simp; omega⟩, putRow_other (by omega), Below.heap_alloc _ _ _ h8])
  exact ⟨h.name, h.aliases, h.keys, h.targets, h.delegates, h.history, h.policy, h.attrs⟩
end Go.Proofs.YtnpddjmjdpgohaaGreatDoor
