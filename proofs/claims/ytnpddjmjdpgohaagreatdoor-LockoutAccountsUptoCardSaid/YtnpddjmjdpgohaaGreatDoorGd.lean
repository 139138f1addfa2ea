/- Part d of the proof about watchword's lockout: texts Y8 Y9 Y10 Y11 Y12. -/
import Derived.Test.YtnpddjmjdpgohaaGreatDoorGc
import Derived.Test.YtnpddjmjdpgohaaGreatDoorG8
import Derived.Test.YtnpddjmjdpgohaaGreatDoorGa
import Derived.Test.YtnpddjmjdpgohaaGreatDoorGP

namespace Go.Proofs.YtnpddjmjdpgohaaGreatDoor
open Go.RowKit Go.WW
attribute [local irreducible] wpText
def RemPost (b n e p : Nat) (re : ByteArray) (s : Int) (E : List EE) (P : List Policy) (w : World) (z : Ending) (w' : World) : Prop :=
  ∃ (c s' : Int) (N' : List (ByteArray × Value)) (E' : List EE), z = .returned (.int .i64 c) ∧ But (ofDb b n e p) w w' ∧ DbAt w' b n e p re s' N' E' P ∧ (∀ x ∈ E', x ∈ E) ∧ 0 ≤ s' ∧ s' ≤ s + 1
theorem removeTo_sub {N N1 : List (ByteArray × Value)} {E E1 : List EE} {k : ByteArray} (h : RemoveTo N E k N1 E1) : ∀ x ∈ E1, x ∈ E := by
  rcases h with ⟨x, hx, rfl, rfl, rfl⟩ | ⟨h, rfl, rfl⟩
  · intro y hy; exact (List.mem_filter.1 hy).1
  · exact fun x hx => hx
set_option maxRecDepth 100000 in
set_option maxHeartbeats 2000000 in
theorem dremove_no (b n e p : Nat) (re : ByteArray) (s : Int) (N : List (ByteArray × Value)) (E : List EE) (P : List Policy) (t : Sl) (q : Prin) (w : World) (h : DbAt w b n e p re s N E P) (hre : ¬ re = ⟨#[]⟩) (hq : PrinAt w t q) (hqo : prinOk q = true) (_hE : ∀ x ∈ E, KeptE (ofDb b n e p) w x ∧ nmsOk x.2) (hs0 : 0 ≤ s) (_hs1 : s < 1000000) (hno : ∀ x ∈ E, textOf x.2.name ≠ textOf q) :
    Calls Tryz.prog 20 #[.pointer (some ⟨b, 0, none⟩), .agg (prinC t q)] w (RemPost b n e p re s E P w) := by
  have hB : Below w.heap.size w (w.alloc (.cells (prinC t q) 24)) := (Below.refl _ _).alloc (Nat.le_refl _) _
  have hx3 : (w.alloc (.cells (prinC t q) 24)).heap[w.heap.size]? = some (.cells (prinC t q) 24) := World.alloc_heap_new _ _
  have h' := h.later hB
  have hq' := hq.later hB
  go_enter Tryz.func20, Tryz.ntmps20
  go_wp2_with fail
  generalize (w.alloc (.cells (prinC t q) 24)) = W at *
  obtain ⟨c0, c1, c2, c3, c4, f1, hl⟩ := box5 h'.box
  have l0 : w.heap.size < W.heap.size := (Array.getElem?_eq_some_iff.1 hx3).1
  have hrp : row? W w.heap.size 0 2 = some (prinC t q) := by rw [row?_of_cells hx3]; exact subRow_whole (by simp [go_sem])
  refine (dnone_no _ _ _ c0 hre).mono ?_
  rintro x w' ⟨rfl, rfl⟩
  dsimp only
  have hlk : ∀ x : Later W, (Instr.lookup 94 (.map (some e)) (.string (textOf q)) true).run Tryz.prog x.w = .ok (.tuple #[.agg (entC zeroR zeroD), .bool false]) x.w := fun x => look_noent (h'.em.at (x.b.block e h'.em.lt)) _ hno
  go_wp2_with fail
  refine wp_region_since2N 11 6 [0, 1, 2, 3, 4, 5, 11, 6, 7, 8, 9, 10, 12, 13] (Below.refl _ W) (by kernel_rfl) (by kernel_rfl) (by rfl) ?_ ?_
  · intro v1 hv1
    iterate 6 (refine textN_look (by kernel_rfl) (by kernel_rfl) (fun K hK => ?_); go_big_quiet_op; refine hK _ ?_; clear hK K)
    refine textN_act (by rfl) (by rfl) (fun K hK => ?_)
    go_wp2_with fail
    refine (key_c _ _ v1 (hq'.later hv1) hqo).mono ?_
    rintro z v2 ⟨rfl, hv2⟩
    dsimp only
    have hv2' := below_step hv1 hv2
    refine hK _ _ (since_of hv2') ?_
    clear hK K
    iterate 4 (refine textN_look (by kernel_rfl) (by kernel_rfl) (fun K hK => ?_); go_big_quiet_op; refine hK _ ?_; clear hK K)
    refine textN_act (by rfl) (by rfl) (fun K hK => ?_)
    go_wp2_with fail
    refine hK _ _ (since_of (below_new hv2' _)) ?_
    clear hK K
    refine textN_act (by rfl) (by rfl) (fun K hK => ?_)
    go_wp2_with fail
    refine hK _ _ (since_of (below_new hv2' (.cells (entC zeroR zeroD) 31))) ?_
    clear hK K
    iterate 1 (refine textN_look (by kernel_rfl) (by kernel_rfl) (fun K hK => ?_); go_big_quiet_op; refine hK _ ?_; clear hK K)
    refine text_nil ?_
    have hV5 := below_new hv2' (.cells (entC zeroR zeroD) 31)
    clear hlk hv1 hv2 hv2'
    generalize (v2.alloc (.cells (entC zeroR zeroD) 31)) = V5 at *
    go_wp2_with fail
    go_ret
    exact ⟨9, s, N, E, rfl, But.of_below (below_step hB hV5), h'.later hV5, fun x hx => hx, hs0, by omega⟩
  · intro v1 hv1
    simp only [pick, List.getElem?_cons_zero, List.getElem?_cons_succ]
    iterate 6 (refine textN_look (by kernel_rfl) (by kernel_rfl) (fun K hK => ?_); go_big_quiet_op; refine hK _ ?_; clear hK K)
    refine textN_act (by rfl) (by rfl) (fun K hK => ?_)
    go_wp2_with fail
    refine hK _ _ (since_of (below_new hv1 _)) ?_
    clear hK K
    rw [← zeroE_lit]
    have hz1 := World.alloc_heap_new v1 (.cells (entC zeroR zeroD) 31)
    have hbz1 := below_new hv1 (.cells (entC zeroR zeroD) 31)
    generalize v1.alloc (.cells (entC zeroR zeroD) 31) = Z at *
    refine textN_act (by rfl) (by rfl) (fun K hK => ?_)
    go_wp2_with fail
    refine (key_c _ _ _ (hq'.later hbz1) hqo).mono ?_
    rintro z v2 ⟨rfl, hv2⟩
    dsimp only
    have hv2' := below_step hbz1 hv2
    refine hK _ _ (since_of hv2') ?_
    clear hK K
    have hz2 := still_blk hv2 hz1
    have hcp : canPut v2 v1.heap.size 0 17 = true := canPut_of_cells hz2 (by simp [go_sem])
    have hV5 := Go.WW.Below.putRow (o := 0) (cs := entC zeroR zeroD) hv2' hv1.size
    iterate 4 (refine textN_look (by kernel_rfl) (by kernel_rfl) (fun K hK => ?_); go_big_quiet_op; refine hK _ ?_; clear hK K)
    refine textN_act (by rfl) (by rfl) (fun K hK => ?_)
    go_wp2_with fail
    refine hK _ _ (since_of hV5) ?_
    clear hK K
    iterate 1 (refine textN_look (by kernel_rfl) (by kernel_rfl) (fun K hK => ?_); go_big_quiet_op; refine hK _ ?_; clear hK K)
    refine text_nil ?_
    clear hlk hv2 hv2' hz1 hz2 hcp hbz1
    generalize (putRow v2 v1.heap.size 0 (entC zeroR zeroD)) = V5 at *
    go_wp2_with fail
    go_ret
    exact ⟨9, s, N, E, rfl, But.of_below (below_step hB hV5), h'.later hV5, fun x hx => hx, hs0, by omega⟩
set_option maxRecDepth 100000 in
set_option maxHeartbeats 2000000 in
theorem dremove_yes (b n e p : Nat) (re : ByteArray) (s : Int) (N : List (ByteArray × Value)) (E : List EE) (P : List Policy) (t : Sl) (q : Prin) (w : World) (h : DbAt w b n e p re s N E P) (hre : ¬ re = ⟨#[]⟩) (hq : PrinAt w t q) (hqo : prinOk q = true) (hE : ∀ x ∈ E, KeptE (ofDb b n e p) w x ∧ nmsOk x.2) (hs0 : 0 ≤ s) (hs1 : s < 1000000) (x0 : EE) (hx0 : x0 ∈ E) (hxq : textOf x0.2.name = textOf q) :
    Calls Tryz.prog 20 #[.pointer (some ⟨b, 0, none⟩), .agg (prinC t q)] w (RemPost b n e p re s E P w) := by
  have hR : RemoveTo N E (textOf q) (delAll N (x0.2.name :: x0.2.aliases)) (delE E (textOf q)) := .inl ⟨x0, hx0, hxq, rfl, rfl⟩
  have hB : Below w.heap.size w (w.alloc (.cells (prinC t q) 24)) := (Below.refl _ _).alloc (Nat.le_refl _) _
  have hx3 : (w.alloc (.cells (prinC t q) 24)).heap[w.heap.size]? = some (.cells (prinC t q) 24) := World.alloc_heap_new _ _
  have h' := h.later hB
  have hq' := hq.later hB
  go_enter Tryz.func20, Tryz.ntmps20
  go_wp2_with fail
  generalize (w.alloc (.cells (prinC t q) 24)) = W at *
  obtain ⟨c0, c1, c2, c3, c4, f1, hl⟩ := box5 h'.box
  have l0 : w.heap.size < W.heap.size := (Array.getElem?_eq_some_iff.1 hx3).1
  have hrp : row? W w.heap.size 0 2 = some (prinC t q) := by rw [row?_of_cells hx3]; exact subRow_whole (by simp [go_sem])
  refine (dnone_no _ _ _ c0 hre).mono ?_
  rintro x w' ⟨rfl, rfl⟩
  dsimp only
  have hlk : ∀ x : Later W, (Instr.lookup 94 (.map (some e)) (.string (textOf q)) true).run Tryz.prog x.w = .ok (.tuple #[.agg (entC x0.1 x0.2), .bool true]) x.w := fun x => hxq ▸ look_ent (h'.em.at (x.b.block e h'.em.lt)) x0 hx0
  go_wp2_with fail
  refine wp_region_since2N 11 6 [0, 1, 2, 3, 4, 5, 11, 6, 7, 8, 9, 10, 12, 13] (Below.refl _ W) (by kernel_rfl) (by kernel_rfl) (by rfl) ?_ ?_
  · intro v1 hv1
    iterate 6 (refine textN_look (by kernel_rfl) (by kernel_rfl) (fun K hK => ?_); go_big_quiet_op; refine hK _ ?_; clear hK K)
    refine textN_act (by rfl) (by rfl) (fun K hK => ?_)
    go_wp2_with fail
    refine (key_c _ _ v1 (hq'.later hv1) hqo).mono ?_
    rintro z v2 ⟨rfl, hv2⟩
    dsimp only
    have hv2' := below_step hv1 hv2
    refine hK _ _ (since_of hv2') ?_
    clear hK K
    iterate 4 (refine textN_look (by kernel_rfl) (by kernel_rfl) (fun K hK => ?_); go_big_quiet_op; refine hK _ ?_; clear hK K)
    refine textN_act (by rfl) (by rfl) (fun K hK => ?_)
    go_wp2_with fail
    refine hK _ _ (since_of (below_new hv2' _)) ?_
    clear hK K
    refine textN_act (by rfl) (by rfl) (fun K hK => ?_)
    go_wp2_with fail
    refine hK _ _ (since_of (below_new hv2' (.cells (entC x0.1 x0.2) 31))) ?_
    clear hK K
    iterate 1 (refine textN_look (by kernel_rfl) (by kernel_rfl) (fun K hK => ?_); go_big_quiet_op; refine hK _ ?_; clear hK K)
    refine text_nil ?_
    have hV5 := below_new hv2' (.cells (entC x0.1 x0.2) 31)
    clear hlk hv1 hv2 hv2'
    generalize (v2.alloc (.cells (entC x0.1 x0.2) 31)) = V5 at *
    have HB5 := below_step hB hV5
    have h5 := h'.later hV5
    have hx5 := still_blk hV5 hx3
    clear c0 c1 c2 c3 c4 f1 hl hrp l0
    have l0 : w.heap.size < V5.heap.size := (Array.getElem?_eq_some_iff.1 hx5).1
    have hrp : row? V5 w.heap.size 0 2 = some (prinC t q) := by rw [row?_of_cells hx5]; exact subRow_whole (by simp [go_sem])
    have n0 := not_ofDb h w.heap.size (Nat.le_refl _)
    go_wp2_with fail
    refine wp_region_sinceB (ofDb b n e p) (But.refl _ V5) (by kernel_rfl) (by kernel_rfl) ?_
    iterate 4 (refine textN_look (by kernel_rfl) (by kernel_rfl) (fun K hK => ?_); go_big_quiet_op; refine hK _ ?_; clear hK K)
    refine textN_act (by rfl) (by rfl) (fun K hK => ?_)
    go_wp2_with fail
    refine (key_c _ _ V5.drew ((hq'.later hV5).later (Below.refl _ _).drew) hqo).mono ?_
    rintro z V6 ⟨rfl, hb6⟩
    dsimp only
    have hb6' : Below V5.heap.size V5 V6 := (Below.refl _ V5).drew.trans hb6
    refine hK _ _ (sinceB_of (But.of_below hb6')) ?_
    clear hK K
    refine textN_act (by rfl) (by rfl) (fun K hK => ?_)
    go_wp2_with fail
    have HB6 := below_step HB5 hb6'
    refine (remove_c b n e p re s N _ E _ P _ V6 (h.later HB6) (fun x hx => ⟨(hE x hx).1.on (But.of_below HB6), (hE x hx).2⟩) hR).mono ?_
    rintro z V7 ⟨rfl, hb7, h7⟩
    dsimp only
    have hb7' : But (ofDb b n e p) V5 V7 := (But.of_below hb6').trans hb7
    refine hK _ _ (sinceB_of hb7') ?_
    clear hK K
    refine text_nil ?_
    have HB7 : But (ofDb b n e p) w V7 := (But.of_below HB5).trans hb7'
    obtain ⟨c0, c1, c2, c3, c4, f1, hl⟩ := box5 h7.box
    go_wp2_with fail
    refine (advance_c b s V7 c1 f1 hs0 hs1).mono ?_
    rintro z w' ⟨rfl, rfl⟩
    dsimp only
    have hset8 := setCell_blk (o := 1) (.int .i64 (s + 1)) h7.box
    rw [dbC_set] at hset8
    have hoth : ∀ k, k ≠ b → (V7.setCell ⟨b, 1, none⟩ (.int .i64 (s + 1))).heap[k]? = V7.heap[k]? := fun k hk => Below.heap_setCell _ _ _ _ hk
    have hsz8 : (V7.setCell ⟨b, 1, none⟩ (.int .i64 (s + 1))).heap.size = V7.heap.size := by simp [World.setCell]
    have HB8 : But (ofDb b n e p) w (V7.setCell ⟨b, 1, none⟩ (.int .i64 (s + 1))) := ⟨HB7.os, HB7.tape, HB7.output, by rw [hsz8]; exact HB7.size, fun k hk hn' => (hoth k (fun e' => hn' (.inl e'))).trans (HB7.block k hk hn')⟩
    have hnb : n ≠ b := fun e' => cells_ne_map h7.box h7.nm e'.symm
    have heb : e ≠ b := fun e' => cells_ne_map h7.box h7.em e'.symm
    have hpb : p ≠ b := fun e' => cells_ne_map h7.box h7.pm e'.symm
    have h8 := DbAt.mk hset8 (h7.nm.at (hoth n hnb)) (h7.em.at (hoth e heb)) (h7.pm.at (hoth p hpb)) h.ne
    go_wp2_with fail
    go_ret
    exact ⟨0, s + 1, _, _, rfl, HB8, h8, removeTo_sub hR, by omega, by omega⟩
  · intro v1 hv1
    simp only [pick, List.getElem?_cons_zero, List.getElem?_cons_succ]
    iterate 6 (refine textN_look (by kernel_rfl) (by kernel_rfl) (fun K hK => ?_); go_big_quiet_op; refine hK _ ?_; clear hK K)
    refine textN_act (by rfl) (by rfl) (fun K hK => ?_)
    go_wp2_with fail
    refine hK _ _ (since_of (below_new hv1 _)) ?_
    clear hK K
    rw [← zeroE_lit]
    have hz1 := World.alloc_heap_new v1 (.cells (entC zeroR zeroD) 31)
    have hbz1 := below_new hv1 (.cells (entC zeroR zeroD) 31)
    generalize v1.alloc (.cells (entC zeroR zeroD) 31) = Z at *
    refine textN_act (by rfl) (by rfl) (fun K hK => ?_)
    go_wp2_with fail
    refine (key_c _ _ _ (hq'.later hbz1) hqo).mono ?_
    rintro z v2 ⟨rfl, hv2⟩
    dsimp only
    have hv2' := below_step hbz1 hv2
    refine hK _ _ (since_of hv2') ?_
    clear hK K
    have hz2 := still_blk hv2 hz1
    have hcp : canPut v2 v1.heap.size 0 17 = true := canPut_of_cells hz2 (by simp [go_sem])
    have hV5 := Go.WW.Below.putRow (o := 0) (cs := entC x0.1 x0.2) hv2' hv1.size
    iterate 4 (refine textN_look (by kernel_rfl) (by kernel_rfl) (fun K hK => ?_); go_big_quiet_op; refine hK _ ?_; clear hK K)
    refine textN_act (by rfl) (by rfl) (fun K hK => ?_)
    go_wp2_with fail
    refine hK _ _ (since_of hV5) ?_
    clear hK K
    iterate 1 (refine textN_look (by kernel_rfl) (by kernel_rfl) (fun K hK => ?_); go_big_quiet_op; refine hK _ ?_; clear hK K)
    refine text_nil ?_
    clear hlk hv2 hv2' hz1 hz2 hcp hbz1
    generalize (putRow v2 v1.heap.size 0 (entC x0.1 x0.2)) = V5 at *
    have HB5 := below_step hB hV5
    have h5 := h'.later hV5
    have hx5 := still_blk hV5 hx3
    clear c0 c1 c2 c3 c4 f1 hl hrp l0
    have l0 : w.heap.size < V5.heap.size := (Array.getElem?_eq_some_iff.1 hx5).1
    have hrp : row? V5 w.heap.size 0 2 = some (prinC t q) := by rw [row?_of_cells hx5]; exact subRow_whole (by simp [go_sem])
    have n0 := not_ofDb h w.heap.size (Nat.le_refl _)
    go_wp2_with fail
    refine wp_region_sinceB (ofDb b n e p) (But.refl _ V5) (by kernel_rfl) (by kernel_rfl) ?_
    iterate 4 (refine textN_look (by kernel_rfl) (by kernel_rfl) (fun K hK => ?_); go_big_quiet_op; refine hK _ ?_; clear hK K)
    refine textN_act (by rfl) (by rfl) (fun K hK => ?_)
    go_wp2_with fail
    refine (key_c _ _ V5.drew ((hq'.later hV5).later (Below.refl _ _).drew) hqo).mono ?_
    rintro z V6 ⟨rfl, hb6⟩
    dsimp only
    have hb6' : Below V5.heap.size V5 V6 := (Below.refl _ V5).drew.trans hb6
    refine hK _ _ (sinceB_of (But.of_below hb6')) ?_
    clear hK K
    refine textN_act (by rfl) (by rfl) (fun K hK => ?_)
    go_wp2_with fail
    have HB6 := below_step HB5 hb6'
    refine (remove_c b n e p re s N _ E _ P _ V6 (h.later HB6) (fun x hx => ⟨(hE x hx).1.on (But.of_below HB6), (hE x hx).2⟩) hR).mono ?_
    rintro z V7 ⟨rfl, hb7, h7⟩
    dsimp only
    have hb7' : But (ofDb b n e p) V5 V7 := (But.of_below hb6').trans hb7
    refine hK _ _ (sinceB_of hb7') ?_
    clear hK K
    refine text_nil ?_
    have HB7 : But (ofDb b n e p) w V7 := (But.of_below HB5).trans hb7'
    obtain ⟨c0, c1, c2, c3, c4, f1, hl⟩ := box5 h7.box
    go_wp2_with fail
    refine (advance_c b s V7 c1 f1 hs0 hs1).mono ?_
    rintro z w' ⟨rfl, rfl⟩
    dsimp only
    have hset8 := setCell_blk (o := 1) (.int .i64 (s + 1)) h7.box
    rw [dbC_set] at hset8
    have hoth : ∀ k, k ≠ b → (V7.setCell ⟨b, 1, none⟩ (.int .i64 (s + 1))).heap[k]? = V7.heap[k]? := fun k hk => Below.heap_setCell _ _ _ _ hk
    have hsz8 : (V7.setCell ⟨b, 1, none⟩ (.int .i64 (s + 1))).heap.size = V7.heap.size := by simp [World.setCell]
    have HB8 : But (ofDb b n e p) w (V7.setCell ⟨b, 1, none⟩ (.int .i64 (s + 1))) := ⟨HB7.os, HB7.tape, HB7.output, by rw [hsz8]; exact HB7.size, fun k hk hn' => (hoth k (fun e' => hn' (.inl e'))).trans (HB7.block k hk hn')⟩
    have hnb : n ≠ b := fun e' => cells_ne_map h7.box h7.nm e'.symm
    have heb : e ≠ b := fun e' => cells_ne_map h7.box h7.em e'.symm
    have hpb : p ≠ b := fun e' => cells_ne_map h7.box h7.pm e'.symm
    have h8 := DbAt.mk hset8 (h7.nm.at (hoth n hnb)) (h7.em.at (hoth e heb)) (h7.pm.at (hoth p hpb)) h.ne
    go_wp2_with fail
    go_ret
    exact ⟨0, s + 1, _, _, rfl, HB8, h8, removeTo_sub hR, by omega, by omega⟩
theorem dremove_c (b n e p : Nat) (re : ByteArray) (s : Int) (N : List (ByteArray × Value)) (E : List EE) (P : List Policy) (t : Sl) (q : Prin) (w : World) (h : DbAt w b n e p re s N E P) (hre : ¬ re = ⟨#[]⟩) (hq : PrinAt w t q) (hqo : prinOk q = true) (hE : ∀ x ∈ E, KeptE (ofDb b n e p) w x ∧ nmsOk x.2) (hs0 : 0 ≤ s) (hs1 : s < 1000000) :
    Calls Tryz.prog 20 #[.pointer (some ⟨b, 0, none⟩), .agg (prinC t q)] w (RemPost b n e p re s E P w) := by
  by_cases hex : ∃ x ∈ E, textOf x.2.name = textOf q
  · obtain ⟨x0, hx0, hxq⟩ := hex
    exact dremove_yes b n e p re s N E P t q w h hre hq hqo hE hs0 hs1 x0 hx0 hxq
  · exact dremove_no b n e p re s N E P t q w h hre hq hqo hE hs0 hs1 fun x hx e' => hex ⟨x, hx, e'⟩
end Go.Proofs.YtnpddjmjdpgohaaGreatDoor

namespace Go.Proofs.YtnpddjmjdpgohaaGreatDoor
open Go.RowKit Go.WW
set_option maxRecDepth 100000 in
set_option maxHeartbeats 4000000 in
theorem len64_c (n : Nat) (hn : n ≤ 12) (w : World) : Calls Tryz.prog 159 #[.int .u64 (n : Int)] w fun e w' => (∃ k, e = .returned (.int .i64 k)) ∧ w = w' := by
  have h : n = 0 ∨ n = 1 ∨ n = 2 ∨ n = 3 ∨ n = 4 ∨ n = 5 ∨ n = 6 ∨ n = 7 ∨ n = 8 ∨ n = 9 ∨ n = 10 ∨ n = 11 ∨ n = 12 := by omega
  rcases h with rfl | rfl | rfl | rfl | rfl | rfl | rfl | rfl | rfl | rfl | rfl | rfl | rfl
  all_goals
    go_enter Tryz.func159, Tryz.ntmps159
    go_wp2
    go_ret
    exact ⟨⟨_, rfl⟩, rfl⟩
set_option maxRecDepth 100000 in
theorem blen_c (n : Nat) (hn : n ≤ 12) (w : World) : Calls Tryz.prog 143 #[.int .u64 (n : Int)] w fun e w' => (∃ k, e = .returned (.int .i64 k)) ∧ w = w' := by
  go_enter Tryz.func143, Tryz.ntmps143
  go_wp2_with fail
  refine (len64_c n hn w).mono ?_
  rintro e w' ⟨⟨k, rfl⟩, rfl⟩
  dsimp only
  go_wp2_with fail
  go_ret
  exact ⟨⟨_, rfl⟩, rfl⟩
set_option maxRecDepth 100000 in
set_option maxHeartbeats 1000000 in
theorem pdq_c (g cap : Nat) (X : List EE) (lm : Int) (w : World) (hn : X.length ≤ 12) (hX : SortOf g X X w w) (hD : (X.map nameX).Nodup) (hN : ∀ y, But (· = g) w y → ∀ x ∈ X, PrinAt y x.1.parts x.2.name) :
    Calls Tryz.prog 142 #[.slice (some ⟨g, 0, none⟩) X.length cap, .int .i64 0, .int .i64 X.length, .int .i64 lm, .func (.func 107) #[] #[]] w fun e w' => e = .returned (.tuple #[]) ∧ ∃ Y, SortOf g X Y w w' ∧ Sorted cmpPrin nameX Y := by
  have HI := Lib.hid (insertionSort_c g cap X w hn hX hD hN)
  clear hX hD hN
  have h12 : (X.length : Int) ≤ 12 := by omega
  go_enter Tryz.func142, Tryz.ntmps142
  go_wp2_with fail
  refine wp_loop_rounds 1 ?_
  rw [rounds_succ]
  go_wp2_with fail
  refine HI.out.mono ?_
  rintro e w' ⟨rfl, hY⟩
  dsimp only
  go_wp2_with fail
  refine bodyPost_ret (results_none rfl _ _ _) rfl ⟨rfl, hY⟩
set_option maxRecDepth 100000 in
set_option maxHeartbeats 1000000 in
theorem sortFunc_c (g cap : Nat) (X : List EE) (w : World) (hn : X.length ≤ 12) (hX : SortOf g X X w w) (hD : (X.map nameX).Nodup) (hN : ∀ y, But (· = g) w y → ∀ x ∈ X, PrinAt y x.1.parts x.2.name) :
    Calls Tryz.prog 126 #[.slice (some ⟨g, 0, none⟩) X.length cap, .func (.func 107) #[] #[]] w fun e w' => e = .returned (.tuple #[]) ∧ ∃ Y, SortOf g X Y w w' ∧ Sorted cmpPrin nameX Y := by
  have HI := Lib.hid (fun lm => pdq_c g cap X lm w hn hX hD hN)
  clear hX hD hN
  go_enter Tryz.func126, Tryz.ntmps126
  go_wp2_with fail
  refine (blen_c _ hn w).mono ?_
  rintro e w' ⟨⟨k, rfl⟩, rfl⟩
  dsimp only
  go_wp2_with fail
  refine (HI.out k).mono ?_
  rintro e w' ⟨rfl, hY⟩
  dsimp only
  go_wp2_with fail
  go_end0
  exact ⟨rfl, hY⟩
set_option maxRecDepth 100000 in
theorem ins_nil (w : World) : Calls Tryz.prog 150 #[.slice none 0 0, .int .i64 0, .int .i64 0, .func (.func 107) #[] #[]] w fun e w' => e = .returned (.tuple #[]) ∧ w = w' := by
  go_enter Tryz.func150, Tryz.ntmps150
  go_wp2_with fail
  refine wp_loop_rounds 1 ?_
  rw [rounds_succ]
  go_wp2_with fail
  go_end0
  exact ⟨rfl, rfl⟩
set_option maxRecDepth 100000 in
theorem pdq_nil (lm : Int) (w : World) : Calls Tryz.prog 142 #[.slice none 0 0, .int .i64 0, .int .i64 0, .int .i64 lm, .func (.func 107) #[] #[]] w fun e w' => e = .returned (.tuple #[]) ∧ w = w' := by
  go_enter Tryz.func142, Tryz.ntmps142
  go_wp2_with fail
  refine wp_loop_rounds 1 ?_
  rw [rounds_succ]
  go_wp2_with fail
  refine (ins_nil w).mono ?_
  rintro e w' ⟨rfl, rfl⟩
  dsimp only
  go_wp2_with fail
  refine bodyPost_ret (results_none rfl _ _ _) rfl ⟨rfl, rfl⟩
set_option maxRecDepth 100000 in
theorem sortFunc_nil (w : World) : Calls Tryz.prog 126 #[.slice none 0 0, .func (.func 107) #[] #[]] w fun e w' => e = .returned (.tuple #[]) ∧ w = w' := by
  go_enter Tryz.func126, Tryz.ntmps126
  go_wp2_with fail
  refine (blen_c 0 (by omega) w).mono ?_
  rintro e w' ⟨⟨k, rfl⟩, rfl⟩
  dsimp only
  go_wp2_with fail
  refine (pdq_nil k w).mono ?_
  rintro e w' ⟨rfl, rfl⟩
  dsimp only
  go_wp2_with fail
  go_end0
  exact ⟨rfl, rfl⟩
end Go.Proofs.YtnpddjmjdpgohaaGreatDoor

namespace Go.WW
open Go.RowKit
theorem lim_le : 12 ≤ lim := by simp [lim]
theorem below_but {S : Nat → Prop} {w a b : World} (h : Below w.heap.size w a) (k : But S a b) (hS : ∀ j, S j → w.heap.size ≤ j) : Below w.heap.size w b :=
  (((But.of_below (S := fun _ => False) h)).past k hS).below (Nat.le_refl _) (fun _ hf => hf.elim)
theorem RowsX.block {w x : World} {g : Nat} {Y : List EE} (h : RowsX w (some ⟨g, 0, none⟩) Y) (e : x.heap[g]? = w.heap[g]?) : RowsX x (some ⟨g, 0, none⟩) Y := by
  refine ⟨h.1, fun i hi => ?_⟩
  obtain ⟨b, o, cs, ha, hr, hy⟩ := h.2 i hi
  cases ha
  exact ⟨g, 0, cs, rfl, (row?_of_block e _ _).trans hr, hy⟩
theorem Own.open {w : World} {base : Nat} {e : TypeId} {s : Sl} {rows : List (Array Value)} {g : Nat} (h : Own w base e 17 s rows) (hg : s.a = some ⟨g, 0, none⟩) : Open w g (rows.length * 17) := by
  rcases h.own.2 with ⟨hv, _⟩ | ⟨g', cap, cur, hv, _, hh, hle, _, hsz, _⟩
  · rw [hg] at hv; cases hv
  · have ha : s.a = some ⟨g', 0, none⟩ := by injection hv
    rw [hg] at ha; cases ha
    exact ⟨cur, e, hh, by rw [hsz]; exact Nat.mul_le_mul_right _ hle⟩
abbrev entM (E : List EE) : List (ByteArray × Value) := E.map fun x => (textOf x.2.name, Value.agg (encX x))
end Go.WW
namespace Go.Proofs.YtnpddjmjdpgohaaGreatDoor
open Go.RowKit Go.WW
def OutSorted (E : List EE) (w : World) (z : Ending) (w' : World) : Prop := ∃ (s : Sl) (Y : List EE), z = .returned (.slice s.a Y.length s.cap) ∧ Below w.heap.size w w' ∧ Y.Perm E ∧ Sorted cmpPrin nameX Y ∧ Dep w' (fresh w.heap.size w') (fun x => RowsX x s.a Y)
set_option maxRecDepth 100000 in
set_option maxHeartbeats 2000000 in
theorem inOrder_c (e : Nat) (E : List EE) (w : World) (hm : MapOf w e (entM E)) (hn : E.length ≤ 12) (hD : (E.map nameX).Nodup) (hN : ∀ x ∈ E, EntAt w x.1 x.2) :
    Calls Tryz.prog 106 #[.map (some e), .func (.func 107) #[] #[]] w (OutSorted E w) := by
  obtain ⟨w1, hrange, hit, hb1, hs1⟩ := iter_start (P := Tryz.prog) Tryz.underlying94 hm
  have HD := Lib.hid hD
  have HN := Lib.hid hN
  have hel := hm.lt
  have hd0 : (entM E).length = E.length := by simp
  clear hD hN
  go_enter Tryz.func106, Tryz.ntmps106
  go_wp2_with fail
  clear hrange
  go_loopw [5] (fun lv wr => ∃ (so : Sl) (T left : List EE), lv = .slice so.a T.length so.cap ∧ Hid (IterOf wr w.heap.size e (entM E) (entM left)) ∧ Hid ((T ++ left).Perm E) ∧ Go.WW.Own wr w1.heap.size 31 17 so (T.map encX) ∧ Below w.heap.size w wr ∧ w1.heap.size ≤ wr.heap.size ∧ (T = [] → so = ⟨none, 0⟩)) (fun lv _ => 13 - (match lv with | .slice _ k _ => k | _ => 0))
  case atStart => exact ⟨⟨none, 0⟩, [], E, rfl, hit, List.Perm.refl _, Go.WW.Own.nil _ _ _ _, hb1, Nat.le_refl _, fun _ => rfl⟩
  case round =>
    obtain ⟨so, T, left, rfl, hI, hp, hO, hbr, hsr, hnil⟩ := hrel
    have hlen : T.length + left.length = E.length := by have := hp.out.length_eq; simpa using this
    rcases iter_next (P := Tryz.prog) 0 hI.out with ⟨hl0, hrun⟩ | ⟨l1, x, l2, w2, hl, hrun, hent, hI2, hb2, hs2⟩
    · obtain rfl : left = [] := by cases left <;> simp_all
      have hTE : T.Perm E := by simpa using hp.out
      rcases Nat.eq_zero_or_pos T.length with hT0 | hT0
      · obtain rfl : T = [] := List.eq_nil_of_length_eq_zero hT0
        obtain rfl := hnil rfl
        go_wp2_with fail
        refine (sortFunc_nil wr).mono ?_
        rintro z w' ⟨rfl, rfl⟩
        dsimp only
        go_wp2_with fail
        go_ret
        exact ⟨⟨none, 0⟩, [], rfl, hbr, hTE, List.Pairwise.nil, fun x _ => ⟨by simp [lim], fun i hi => by simp at hi⟩⟩
      · obtain ⟨g, hga, hgb, hg0⟩ := hO.row 0 (by simpa using hT0)
        have hge := hO.base hgb
        obtain ⟨sa, sc⟩ := so
        obtain rfl : sa = some ⟨g, 0, none⟩ := hga
        have hSO : SortOf g T T wr wr := ⟨List.Perm.refl _, But.refl _ _, RowsX.of_own hO (by have := lim_le; omega), by simpa using hO.open rfl⟩
        have HS := Lib.hid (sortFunc_c g sc T wr (by omega) hSO ((hTE.map nameX).nodup_iff.2 HD.out) (fun y hy x hx => (HN.out x (hTE.mem_iff.1 hx)).name.later (below_but hbr hy (fun j (hj : j = g) => by omega))))
        clear hSO
        go_wp2_with fail
        refine HS.out.mono ?_
        rintro z w' ⟨rfl, Y, hY, hso⟩
        dsimp only
        go_wp2_with fail
        have hbw := below_but hbr hY.but (fun j (hj : j = g) => by omega)
        have hlY := hY.perm.length_eq
        have hg' : g < w'.heap.size := by have := hY.but.size; omega
        go_ret
        exact ⟨⟨some ⟨g, 0, none⟩, sc⟩, Y, by rw [hlY]; rfl, hbw, hY.perm.trans hTE, hso, fun x hx => hY.rows.block (hx g ⟨by omega, hg'⟩)⟩
    · obtain ⟨L1, L', hL, e1, e2⟩ := List.map_eq_append_iff.1 hl
      obtain ⟨y, L2, rfl, e3, e4⟩ := List.map_eq_cons_iff.1 e2
      subst e3 e1 e4 hL
      have hbw2 : Below w.heap.size w w2 := below_but hbr hb2 (fun j (hj : j = w.heap.size) => by omega)
      have hown : Go.WW.Own ((w2.alloc (.cells (entC y.1 y.2) 31)).alloc (.cells (entC y.1 y.2) 31)) w1.heap.size 31 17 so (T.map encX) := hO.kept fun g hg => by
        have hgb := hO.base hg
        rw [Below.heap_alloc _ _ _ (by simp; omega), Below.heap_alloc _ _ _ (by omega)]
        exact hb2.block g hgb.2 (show ¬ g = w.heap.size by omega)
      have hrun' : (Instr.next (.pointer (some ⟨w.heap.size, 0, none⟩)) false 0).run Tryz.prog wr = .ok (.tuple #[.bool true, .string (textOf y.2.name), .agg (entC y.1 y.2)]) w2 := hrun
      have hent' : (Instr.entry (.pointer (some ⟨w.heap.size, 0, none⟩))).run Tryz.prog w2 = .ok (.tuple #[.string (textOf y.2.name), .agg (entC y.1 y.2)]) w2 := hent
      have hsrc : SrcRows ((w2.alloc (.cells (entC y.1 y.2) 31)).alloc (.cells (entC y.1 y.2) 31)) 17 (some ⟨w2.heap.size + 1, 0, none⟩) [entC y.1 y.2] := by
        have := SrcRows.new (w2.alloc (.cells (entC y.1 y.2) 31)) (entC y.1 y.2) 31 17 (by simp [go_sem]) (by simp [go_sem])
        rwa [World.size_alloc] at this
      have HS2 := Lib.hid hs2
      clear hrun hent hs2
      go_wp2_with (at_builtin; refine wpList_append_n rfl (.tmp 14) (.tmp 16) _ rfl elemEnt (n := T.length) (rows := T.map encX) (news := [entC y.1 y.2]) rfl (by simp) hown rfl rfl hsrc (by rw [List.length_map]; simp; omega) (by have := HS2.out; simp; omega) ?_; intro s3 w3 hown3 hg3 hat3)
      have hs2 := HS2.out
      have hbA : Below w.heap.size w ((w2.alloc (.cells (entC y.1 y.2) 31)).alloc (.cells (entC y.1 y.2) 31)) := below_new (below_new hbw2 _) _
      have hb3 : Below w.heap.size w w3 := hbA.grown hg3 hbA.size (fun g hg => by have := (hown.base hg).1; omega)
      have hs3 := hg3.size
      have hkp : ∀ k, k < w1.heap.size → w3.heap[k]? = w2.heap[k]? := fun k hk => by
        rw [hg3.block k (by simp; omega) (fun e => by have := (hown.base e.symm).1; omega), Below.heap_alloc _ _ _ (by simp; omega), Below.heap_alloc _ _ _ (by omega)]
      have HI3 := Lib.hid (hI2.at (hkp w.heap.size (by omega)) (hkp e (by omega)))
      have HP3 := Lib.hid (show ((T ++ [y]) ++ (L1 ++ L2)).Perm E from List.Perm.trans (by simpa using List.perm_middle.symm.append_left T) hp.out)
      have HO3 : Go.WW.Own w3 w1.heap.size 31 17 s3 ((T ++ [y]).map encX) := by rw [List.map_append]; exact hown3
      have hsz3 : w1.heap.size ≤ w3.heap.size := by simp at hs3; omega
      have hTl : T.length + 1 ≤ 12 := by simp at hlen; omega
      clear hown hown3 hg3 hat3 hI2 hb2 hbw2 hkp hbA hs3 HS2 hs2
      go_wp2_with fail
      go_roundw
      case rel => exact ⟨s3, T ++ [y], L1 ++ L2, by simp, by simpa [Hid] using HI3.out, HP3.out, HO3, hb3, hsz3, by simp⟩
      case measure => simp; omega
end Go.Proofs.YtnpddjmjdpgohaaGreatDoor

namespace Go.WW
open Go.RowKit
def VAll (S : Nat → Prop) (w : World) (_ : Nat) (x : EE × Nat) (v : Array Value) (_ _ : World) : Prop := v = #[.int .i64 x.2, .agg (encX x.1)] ∧ ∀ y, But (Off S w) w y → EntAt y x.1.1 x.1.2
structure RowsXE (y : World) (a : Option Addr) (Y : List EE) : Prop where
  rows : RowsX y a Y
  each : ∀ x ∈ Y, EntAt y x.1 x.2
end Go.WW
namespace Go.Proofs.YtnpddjmjdpgohaaGreatDoor
open Go.RowKit Go.WW
set_option maxRecDepth 100000 in
theorem entryList_c (b n e p : Nat) (re : ByteArray) (s : Int) (N : List (ByteArray × Value)) (E : List EE) (P : List Policy) (w : World) (h : DbAt w b n e p re s N E P) (hn : E.length ≤ 12) (hD : (E.map nameX).Nodup) (hN : ∀ x ∈ E, EntAt w x.1 x.2) :
    Calls Tryz.prog 73 #[.pointer (some ⟨b, 0, none⟩)] w (OutSorted E w) := by
  obtain ⟨c0, c1, c2, c3, c4, f1, hl⟩ := box5 h.box
  have HI := Lib.hid (inOrder_c e E w h.em hn hD hN)
  clear hD hN
  go_enter Tryz.func73, Tryz.ntmps73
  go_wp2_with fail
  refine HI.out.mono ?_
  rintro z w' ⟨sl, Y, rfl, hY⟩
  dsimp only
  go_wp2_with fail
  go_ret
  exact ⟨sl, Y, rfl, hY⟩
set_option maxRecDepth 100000 in
set_option maxHeartbeats 1000000 in
theorem dEntries_c (b n e p : Nat) (re : ByteArray) (s : Int) (N : List (ByteArray × Value)) (E : List EE) (P : List Policy) (w : World) (h : DbAt w b n e p re s N E P) (hre : ¬ re = ⟨#[]⟩) (hn : E.length ≤ 12) (hD : (E.map nameX).Nodup) (hN : ∀ x ∈ E, EntAt w x.1 x.2) :
    Calls Tryz.prog 41 #[.pointer (some ⟨b, 0, none⟩)] w fun z w' => ∃ (sl : Sl) (Y : List EE), z = .returned (.func (.func 74) #[] #[.pointer (some ⟨w.heap.size, 0, none⟩)]) ∧ Below w.heap.size w w' ∧ w'.heap[w.heap.size]? = some (.cells #[.slice sl.a Y.length sl.cap] 46) ∧ Y.Perm E ∧ Sorted cmpPrin nameX Y ∧ Dep w' (fresh w.heap.size w') (fun x => RowsX x sl.a Y) := by
  have hB : Below w.heap.size w (w.alloc (.cells #[.slice none 0 0] 46)) := (Below.refl _ _).alloc (Nat.le_refl _) _
  have hx3 : (w.alloc (.cells #[.slice none 0 0] 46)).heap[w.heap.size]? = some (.cells #[.slice none 0 0] 46) := World.alloc_heap_new _ _
  have h' := h.later hB
  have HE := Lib.hid (entryList_c b n e p re s N E P _ h' hn hD (fun x hx => (hN x hx).later hB))
  have hW : w.heap.size < (w.alloc (.cells #[.slice none 0 0] 46)).heap.size := by simp
  clear hD hN
  go_enter Tryz.func41, Tryz.ntmps41
  go_wp2_with fail
  generalize (w.alloc (.cells #[.slice none 0 0] 46)) = W at *
  obtain ⟨c0, c1, c2, c3, c4, f1, hl⟩ := box5 h'.box
  refine (dnone_no _ _ _ c0 hre).mono ?_
  rintro x w' ⟨rfl, rfl⟩
  dsimp only
  go_wp2_with fail
  refine HE.out.mono ?_
  rintro z w2 ⟨sl, Y, rfl, hb2, hp, hso, hd⟩
  dsimp only
  have hx2 := still_blk hb2 hx3
  have hcx : w2.cell? ⟨w.heap.size, 0, none⟩ = some (.slice none 0 0) := (box_facts hx2).1 0
  have hfx : w2.frozen? ⟨w.heap.size, 0, none⟩ = false := (box_facts hx2).2.1 0
  have hlx : w.heap.size < w2.heap.size := (Array.getElem?_eq_some_iff.1 hx2).1
  go_wp2_with fail
  have hset := setCell_blk (o := 0) (.slice sl.a Y.length sl.cap) hx2
  have hsz : (w2.setCell ⟨w.heap.size, 0, none⟩ (.slice sl.a Y.length sl.cap)).heap.size = w2.heap.size := by simp [World.setCell]
  go_ret
  refine ⟨sl, Y, rfl, (below_step hB hb2).setCell (Nat.le_refl _) _, hset, hp, hso, fun x hx => hd x fun k hk => ?_⟩
  have hk1 := hk.1
  have hk2 := hk.2
  rw [hx k ⟨by omega, by omega⟩]
  exact Below.heap_setCell _ _ _ _ (show k ≠ w.heap.size by omega)
theorem allE_c (a : Option Addr) (n cap : Nat) (w : World) : Calls Tryz.prog 75 #[.slice a n cap] w fun e w' => e = .returned (.func (.func 109) #[] #[.pointer (some ⟨w.heap.size, 0, none⟩)]) ∧ w' = w.alloc (.cells #[.slice a n cap] 46) := by
  go_enter Tryz.func75, Tryz.ntmps75
  go_wp2
  go_ret
  exact ⟨rfl, rfl⟩
attribute [local go_sem] Oper.semAt_some
set_option maxRecDepth 100000 in
set_option maxHeartbeats 1000000 in
theorem all1_seq (b cap : Nat) (a : Option Addr) (Y : List EE) (S : Nat → Prop) (w : World) (hc : w.cell? ⟨b, 0, none⟩ = some (.slice a Y.length cap)) (hL : ∀ y, But (Off S w) w y → RowsXE y a Y) :
    SeqB Tryz.prog 109 #[.pointer (some ⟨b, 0, none⟩)] S Y.zipIdx (VAll S w) w := by
  intro l J Jx W hW hl1 hl2 h0 hJ hJx hY
  have hn : Y.length ≤ 4294967000 := (hL w (But.refl _ _)).rows.1
  have hcW : W.cell? ⟨b, 0, none⟩ = some (.slice a Y.length cap) := (hW.cell (World.block_lt_of_cell? w _ hc)).trans hc
  have hWB : But (Off S w) w W := But.of_below hW
  have HJ := Lib.hid hJ
  have HJx := Lib.hid hJx
  have HY := Lib.hid hY
  have HL := Lib.hid hL
  have H0 := Lib.hid (h0 W.heap.size W (Nat.le_refl _) (Nat.le_refl _) (Below.refl _ _))
  clear hJ hJx hY hL h0
  refine (callsIn_wide (n := 0)).1 ?_
  refine callsIn_of_wp Tryz.func109 rfl trivial ?_ rfl
  simp only [Tryz.ntmps109, List.size_toArray, List.length_cons, List.length_nil, Nat.reduceAdd, Nat.reduceSub, Array.replicate_succ, Array.replicate_zero, List.push_toArray, List.append_toArray, List.nil_append, List.cons_append]
  rcases Nat.eq_zero_or_pos Y.length with hX | hX
  · obtain rfl : Y = [] := List.eq_nil_of_length_eq_zero hX
    gi_wp2
    refine wpIn_loop_rounds 1 ?_
    rw [roundsIn_succ]
    gi_wp2
    go_end0
    exact ⟨⟨_, rfl⟩, .inl ⟨_, H0.out⟩⟩
  obtain ⟨B, o, -, rfl, -⟩ := (HL.out w (But.refl _ _)).rows.2 0 hX
  gi_wp2
  gi_loopw [7] (fun iv wr => ∃ i : Nat, i ≤ Y.length ∧ iv = .int .i64 i ∧ Hid (J W.heap.size i wr) ∧ Hid (But (Off S w) w wr) ∧ W.heap.size ≤ wr.heap.size) (fun iv _ => Y.length - (intOf iv).toNat)
  case atStart => exact ⟨0, Nat.zero_le _, rfl, H0, hWB, Nat.le_refl _⟩
  case round =>
    obtain ⟨i, hi, rfl, hj, hbu, hsz⟩ := hrel
    by_cases hlt : i < Y.length
    · have hki : (i : Int) < (Y.length : Int) := by omega
      have hr := (HL.out wr hbu.out).rows.at i hlt
      have HP := Lib.hid (fun y hy => (HL.out y hy).each _ (List.getElem_mem hlt))
      have hx : (Y.zipIdx)[i]? = some (Y[i], i) := by rw [List.getElem?_zipIdx]; simp [hlt]
      generalize Y[i] = x at *
      obtain ⟨r, d⟩ := x
      have hr' : row? wr B (o + i * 17) 17 = some (entC r d) := hr
      clear hr
      have hal : But (Off S w) w (wr.alloc (.cells (entC r d) 31)) := hbu.out.trans (But.of_below ((Below.refl _ wr).alloc (Nat.le_refl _) _))
      obtain ⟨fn, tmps, assign, body, hy, hR⟩ := HY.out W.heap.size i ((r, d), i) #[.int .i64 i, .agg (entC r d)] wr (wr.alloc (.cells (entC r d) 31)) hx hj.out (But.of_below ((Below.refl _ wr).alloc (Nat.le_refl _) _)) ⟨rfl, HP.out⟩ (Nat.le_refl _) hsz
      gi_wp2
      refine ⟨rfl, hR.mono ?_⟩
      rintro e W3 ⟨hb3, h3⟩
      have HB3 := Lib.hid (show But (Off S w) w W3 from hal.trans (hb3.mono fun k hk => by
        rcases hk with (hk | rfl) | hk
        · exact .inl hk
        · exact .inr hl1
        · exact .inr (Nat.le_trans hW.size hk)))
      have HS3 : W.heap.size ≤ W3.heap.size := by have := hb3.size; simp at this; omega
      clear hal hy hR hb3
      rcases h3 with ⟨rfl, hj3⟩ | ⟨rfl, hx3⟩
      · have HJ3 := Lib.hid hj3
        clear hj3
        gi_wp2
        go_roundw
        case rel => exact ⟨i + 1, by omega, by go_num, HJ3.out, HB3.out, HS3⟩
        case measure => simp [intOf]; omega
      · have HJ3 := Lib.hid hx3
        clear hx3
        gi_wp2
        refine bodyPost_ret (results_none rfl _ _ _) rfl ?_
        exact ⟨⟨_, rfl⟩, .inr ⟨_, _, HJ3.out⟩⟩
    · obtain rfl : i = Y.length := by omega
      gi_wp2
      go_end0
      exact ⟨⟨_, rfl⟩, .inl ⟨_, by simpa using hj.out⟩⟩
end Go.Proofs.YtnpddjmjdpgohaaGreatDoor

namespace Go.WW
open Go.RowKit
def VE (_ : Nat) (x : EE × Nat) (v : Array Value) (W0 W1 : World) : Prop := ∃ r, v = #[.int .i64 x.2, .agg (entC r x.1.2)] ∧ Dep W1 (fresh W0.heap.size W1) (fun y => EntAt y r x.1.2)
end Go.WW
namespace Go.Proofs.YtnpddjmjdpgohaaGreatDoor
open Go.RowKit Go.WW
attribute [local go_sem] Oper.semAt_some
set_option maxRecDepth 100000 in
set_option maxHeartbeats 1000000 in
theorem entries1_seq (b : Nat) (s : Sl) (X : List EE) (S : Nat → Prop) (w : World) (hc : w.heap[b]? = some (.cells #[.slice s.a X.length s.cap] 46)) (hS : ∀ k, S k → k < w.heap.size) (hL : ∀ y, But (Off S w) w y → RowsXE y s.a X) :
    SeqB Tryz.prog 74 #[.pointer (some ⟨b, 0, none⟩)] S X.zipIdx VE w := by
  intro l J Jx W hW hl1 hl2 h0 hJ hJx hY
  have hWc : W.cell? ⟨b, 0, none⟩ = some (.slice s.a X.length s.cap) := (box_facts (still_blk hW hc)).1 0
  have hbl : b < W.heap.size := World.block_lt_of_cell? W _ hWc
  have HJ := Lib.hid hJ
  have HJx := Lib.hid hJx
  have HY := Lib.hid hY
  have HL := Lib.hid hL
  have H0 := Lib.hid h0
  clear hJ hJx hY hL h0
  obtain ⟨W1, hW1⟩ : ∃ W1, W1 = W.alloc (.cells #[.func (.yield l) #[] #[]] 125) := ⟨_, rfl⟩
  obtain ⟨W2, hW2⟩ : ∃ W2, W2 = W1.alloc (.cells #[.slice s.a X.length s.cap] 46) := ⟨_, rfl⟩
  have hs1 : W1.heap.size = W.heap.size + 1 := by rw [hW1]; simp
  have hb1 : Below W.heap.size W W1 := by rw [hW1]; exact (Below.refl _ _).alloc (Nat.le_refl _) _
  have hb2 : Below W.heap.size W W2 := by rw [hW2]; exact hb1.alloc hb1.size _
  have hs2 : W2.heap.size = W.heap.size + 2 := by rw [hW2]; simp [hs1]
  have hy1 : W2.heap[W.heap.size]? = some (.cells #[.func (.yield l) #[] #[]] 125) := by
    rw [hW2, Below.heap_alloc _ _ _ (by omega), hW1]; exact World.alloc_heap_new _ _
  have hy2 : W2.cell? ⟨W.heap.size + 1, 0, none⟩ = some (.slice s.a X.length s.cap) := by
    have := World.alloc_heap_new W1 (.cells #[.slice s.a X.length s.cap] 46)
    rw [← hW2, hs1] at this
    exact (box_facts this).1 0
  refine (callsIn_wide (n := 0)).1 ?_
  refine callsIn_of_wp_marks Tryz.func74 rfl trivial ?_ rfl
  simp only [Tryz.ntmps74, List.size_toArray, List.length_cons, List.length_nil, Nat.reduceAdd, Nat.reduceSub, Array.replicate_succ, Array.replicate_zero, List.push_toArray, List.append_toArray, List.nil_append, List.cons_append]
  gi_wp2
  refine wpIn_scope_straight ?_
  gi_wp2
  refine wpIn_label ?_
  gi_wp2
  refine ⟨trivial, rfl, (callsIn_wide.2 (allE_c _ _ _ _)).mono ?_⟩
  rintro e w' ⟨rfl, rfl⟩
  rw [← hW1, hs1, ← hW2]
  clear hW1 hW2
  gi_wp2
  have hwW := hW.size
  refine (wpIn_wide (n := 0)).2 ?_
  refine wp_range_but (gf := 109) (lb := #[.pointer (some ⟨W.heap.size + 1, 0, none⟩)]) (by simp [go_sem]) (enters_of Tryz.func109 (by kernel_rfl) rfl) (S := fun k => S k ∨ k = l) ?_ (xs := X.zipIdx) (V := VAll (fun k => S k ∨ k = l) W2) ?_ (all1_seq _ s.cap s.a X _ W2 hy2 ?_)
    (fun c1 k Wc => J c1 k Wc ∧ Wc.heap[W.heap.size]? = some (.cells #[.func (.yield l) #[] #[]] 125) ∧ But (Off (fun k => S k ∨ k = l) W2) W2 Wc ∧ W2.heap.size < c1) (fun c c1 k Wc => c = .exit 0 ∧ Jx c1 k Wc ∧ W2.heap.size < c1) ?_ ?_ ?_ ?_ ?_ ?_
  · rintro k (hk | rfl)
    · have := hS k hk; omega
    · omega
  · rintro c1 x v W0 Wc ⟨rfl, _⟩; rfl
  · intro y hy
    refine HL.out y ((But.of_below (below_step hW hb2)).trans (hy.mono fun k hk => ?_))
    rcases hk with (hk | rfl) | hk
    · exact .inl hk
    · exact .inr hl1
    · exact .inr (by omega)
  · intro c1 Wc h1 h2 hb
    exact ⟨H0.out c1 Wc (by omega) h2 (below_step hb2 hb), still_blk hb hy1, But.of_below hb, h1⟩
  · rintro c1 k Wc Wc' ⟨h1, h2, h3, h4⟩ hb
    exact ⟨HJ.out _ _ _ _ h1 (hb.mono fun k hk => ⟨by have := hk.1; omega, hk.2⟩), (hb.block _ (Array.getElem?_eq_some_iff.1 h2).1 (fun h => by have := h.1; omega)).trans h2, h3.trans (hb.mono fun k hk => .inr (by have := hk.1; omega)), h4⟩
  · rintro c c1 k Wc Wc' ⟨rfl, h1, h2⟩ hb
    exact ⟨rfl, HJx.out _ _ _ _ h1 (hb.mono fun k hk => ⟨by have := hk.1; omega, hk.2⟩), h2⟩
  · rintro c1 k x v W0 Wc hx ⟨rfl, hp⟩ ⟨hj, hyc0, hbu0, hc0⟩ hbs hc1 hc20
    have hsW := hbs.size
    have hc2 : c1 ≤ Wc.heap.size := Nat.le_trans hc20 hsW
    have hyc := (hbs.block _ (Array.getElem?_eq_some_iff.1 hyc0).1 (fun h => by have := h.1; omega)).trans hyc0
    have hbu := hbu0.trans (hbs.mono fun k hk => (.inr (by have := hk.1; omega) : Off (fun k => S k ∨ k = l) W2 k))
    have hbsW : But (span W.heap.size c1) W0 Wc := hbs.mono fun k hk => ⟨by have := hk.1; omega, hk.2⟩
    obtain ⟨⟨s0, p⟩, ix⟩ := x
    have HP := Lib.hid hp
    have HJ0 := Lib.hid hj
    clear hp hj
    simp only [encX]
    gi_wp2
    have hcl : W.heap.size < Wc.heap.size := (Array.getElem?_eq_some_iff.1 hyc).1
    have hal : Below Wc.heap.size Wc (Wc.alloc (.cells (entC s0 p) 31)) := (Below.refl _ _).alloc (Nat.le_refl _) _
    refine ⟨hal, fun U hU => ?_⟩
    have hUp : U.heap[Wc.heap.size]? = some (.cells (entC s0 p) 31) := (hU.block _ (by simp) (not_one (by omega))).trans (World.alloc_heap_new _ _)
    have hUy : U.heap[W.heap.size]? = some (.cells #[.func (.yield l) #[] #[]] 125) := (hU.block _ (by simp; omega) (not_one (by omega))).trans (still_blk hal hyc)
    have hbuU : But (Off (fun k => S k ∨ k = l) W2) W2 U := (hbu.trans (But.of_below hal)).trans (hU.mono fun k hk => .inr (by have : k = _ := hk; omega))
    have hPU := HP.out U hbuU
    have hbsU : But (span W.heap.size c1) W0 U := hbsW.trans ((But.of_below hal).trans (hU.mono fun k hk => (⟨by have : k = _ := hk; omega, by have : k = _ := hk; omega⟩ : span W.heap.size c1 k)))
    have hUs : Wc.heap.size < U.heap.size := (Array.getElem?_eq_some_iff.1 hUp).1
    have hnW : ¬ ((S W.heap.size ∨ W.heap.size = l) ∨ c1 ≤ W.heap.size) := by
      rintro ((h | h) | h)
      · have := hS _ h; omega
      · omega
      · omega
    have hcy : U.cell? ⟨W.heap.size, 0, none⟩ = some (.func (.yield l) #[] #[]) := (box_facts hUy).1 0
    have hWU : W.heap.size < U.heap.size := by omega
    have hrp : row? U Wc.heap.size 0 17 = some (entC s0 p) := by rw [row?_of_cells hUp]; exact subRow_whole (by simp [go_sem])
    clear hal hU hbu HP hyc hyc0 hbu0 hbs
    gi_wp2
    refine TI.wpIn_region_sinceT 31 (fun k => (S k ∨ k = l) ∨ c1 ≤ k) (But.refl _ U) (by kernel_rfl) (by kernel_rfl) (by kernel_rfl) ?_
    repeat (first | (refine TI.text_skip (by rfl) ?_) | (refine TI.textT_look (by rfl) (by rfl) (fun K hK => ?_); go_big_quiet_op; refine hK _ ?_; clear hK K))
    refine TI.textT_act (by rfl) (by rfl) (by rfl) (fun K hK => ?_)
    go_wp2_with fail
    refine hK _ _ (sinceB_of (But.refl _ U).drew) ?_
    clear hK K
    refine TI.textT_act (by rfl) (by rfl) (by rfl) (fun K hK => ?_)
    go_wp2_with fail
    refine (eCopy_c _ _ U.drew (hPU.later (Below.refl _ _).drew)).mono ?_
    rintro e U2 ⟨s2, rfl, hb2', hd2⟩
    dsimp only
    have hbb : Below U.heap.size U U2 := (Below.refl _ U).drew.trans hb2'
    refine hK _ _ (sinceB_of (But.of_below hbb)) ?_
    clear hK K
    have hbs := hbb.size
    obtain ⟨fn, tmps, assign, body, hy, hR⟩ := HY.out c1 k ((s0, p), ix) #[.int .i64 ix, .agg (entC s2 p)] W0 U2 hx HJ0.out (hbsU.trans (But.of_below hbb)) ⟨s2, rfl, hd2.to (fun _ _ => rfl) (fun j hj => ⟨by have h1 : U.drew.heap.size ≤ j := hj.1; have h2 : U.drew.heap.size = U.heap.size := rfl; omega, hj.2⟩)⟩ (by omega) hc20
    refine TI.textT_yield (by rfl) (by rfl) (fun K hK => ?_)
    gi_wp2
    refine ⟨rfl, RoundIn.mono (F := Fence.wide.inRound (W.heap.size + 2 + 1)) hR ?_⟩
    rintro e W3 ⟨hb3, h3⟩
    have hbU3 : But (fun k => (S k ∨ k = l) ∨ c1 ≤ k) U W3 := (But.of_below hbb).trans hb3
    have hy3 : W3.heap[W.heap.size]? = some (.cells #[.func (.yield l) #[] #[]] 125) := (hbU3.block _ hWU hnW).trans hUy
    have hbu3 : But (Off (fun k => S k ∨ k = l) W2) W2 W3 := hbuU.trans (hbU3.mono fun k hk => hk.imp id (fun h => by omega))
    clear hy hR hd2 hcy hrp hUp hUy hbuU hPU
    rcases h3 with ⟨rfl, hj3⟩ | ⟨rfl, hx3⟩
    · dsimp only
      refine hK _ _ (sinceB_of hbU3) ?_
      clear hK K
      repeat (first | (refine TI.text_skip (by rfl) ?_) | (refine TI.textT_look (by rfl) (by rfl) (fun K hK => ?_); go_big_quiet_op; refine hK _ ?_; clear hK K))
      refine TI.text_nil ?_
      gi_wp2
      exact ⟨hbU3, hj3, hy3, hbu3, by omega⟩
    · dsimp only
      refine hK _ _ (sinceB_of hbU3) ?_
      clear hK K
      repeat (first | (refine TI.text_skip (by rfl) ?_) | (refine TI.textT_look (by rfl) (by rfl) (fun K hK => ?_); go_big_quiet_op; refine hK _ ?_; clear hK K))
      refine TI.text_nil ?_
      gi_wp2
      exact ⟨hbU3, rfl, hx3, by omega⟩
  · intro c1 Wc ⟨hj, _, _, hc0⟩ hD
    gi_wp2
    refine ⟨by simp, .inl ⟨_, _, rfl, run_takeDeferred hD, ?_⟩⟩
    refine ⟨.tuple #[], by simp [results, Tryz.f74, go_sem], ⟨_, rfl⟩, .inl ⟨c1, HJ.out _ _ _ _ hj ((But.putObj _).mono fun k hk => ?_)⟩⟩
    have : k = _ := hk
    exact ⟨by omega, by omega⟩
  · rintro c c1 k Wc ⟨rfl, hx, hc0⟩ hD
    refine (wpIn_wide (n := 0)).1 ?_
    gi_wp2
    refine ⟨by simp, .inl ⟨_, _, rfl, run_takeDeferred hD, ?_⟩⟩
    refine ⟨.tuple #[], by simp [results, Tryz.f74, go_sem], ⟨_, rfl⟩, .inr ⟨c1, k, HJx.out _ _ _ _ hx ((But.putObj _).mono fun k hk => ?_)⟩⟩
    have : k = _ := hk
    exact ⟨by omega, by omega⟩
end Go.Proofs.YtnpddjmjdpgohaaGreatDoor
