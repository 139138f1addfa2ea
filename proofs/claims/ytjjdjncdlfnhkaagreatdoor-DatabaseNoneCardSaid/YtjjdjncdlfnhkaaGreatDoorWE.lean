/- law26.DatabaseNone, whole. -/
import Derived.Test.YtjjdjncdlfnhkaaGreatDoorWD
import Derived.Test.YtjjdjncdlfnhkaaGreatDoorTB
namespace Go.Proofs.YtjjdjncdlfnhkaaGreatDoor
open Go.RowKit Go.WW Go.Mini Go.MiniT
theorem actL_len (k a b c : Int) (r : ERaw) (d : Entry) (s : Sl) (p : Prin) (q : Policy) : (actL k a b c r d s p q).length = 33 := by
  simp [actL, entC_size, prinC_size, polC_size]
theorem actL_ent (k a b c : Int) (r : ERaw) (d : Entry) (s : Sl) (p : Prin) (q : Policy) (j : Nat) (h : j < 17) : (actL k a b c r d s p q)[1 + j]? = (entC r d).toList[j]? := by
  unfold actL
  rw [List.getElem?_append_right (by simp), List.getElem?_append_left (by simp [entC_size]; omega)]
  congr 1; simp
theorem actL_prin (k a b c : Int) (r : ERaw) (d : Entry) (s : Sl) (p : Prin) (q : Policy) (j : Nat) (h : j < 2) : (actL k a b c r d s p q)[18 + j]? = (prinC s p).toList[j]? := by
  unfold actL
  rw [List.getElem?_append_right (by simp; try omega), List.getElem?_append_right (by simp [entC_size]; try omega), List.getElem?_append_left (by simp [entC_size, prinC_size]; try omega)]
  congr 1; simp [entC_size]; try omega
theorem actL_pol (k a b c : Int) (r : ERaw) (d : Entry) (s : Sl) (p : Prin) (q : Policy) : (actL k a b c r d s p q)[23]? = some (.string q.name) := by
  unfold actL
  rw [List.getElem?_append_right (by simp), List.getElem?_append_right (by simp [entC_size]), List.getElem?_append_right (by simp [entC_size, prinC_size]), List.getElem?_append_right (by simp [entC_size, prinC_size])]
  simp [entC_size, prinC_size, polC_0]
set_option maxRecDepth 100000 in
theorem dbNone_c (k a b c : Int) (r : ERaw) (d : Entry) (s : Sl) (p : Prin) (q : Policy) (zero : Bool) (w : World) (he : EntAt w r d) (hp : PrinAt w s p) (hq : q.name.size ≤ lim) :
    Calls Tryz.prog 3 #[.agg (actL k a b c r d s p q).toArray, .bool zero] w fun e w' => e = .returned (.bool true) ∧ Below w.heap.size w w' := by
  letI O : Opq := opqOf (actL k a b c r d s p q) (actL_one k a b c r d s p q)
  have hO : OrcOk (lawE (boolOf (SmallP p d q))) Tryz.prog w.heap.size w := by
    refine orcRow_ok rfl ?_
    rintro w1 blk off cap hb ⟨cs, t, fz, h1, h2⟩
    have hcell : ∀ i, i < 33 → w1.cell? ⟨blk, off + i, none⟩ = (actL k a b c r d s p q)[i]? := fun i hi => by
      rw [cell_of_row w1 blk (off + i) cs t fz h1, h2 i hi]
      show some (((actL k a b c r d s p q)[i]?).getD .nilFunc) = _
      rw [List.getElem?_eq_getElem (by rw [actL_len]; exact hi)]; rfl
    refine small_c blk off cap r d s p q w1 ?_ ?_ ?_ (he.later hb) (hp.later hb) hq
    · have := row?_of_all (w := w1) (b := blk) (o := off + 1) (n := 17) (cs := (entC r d).toList) (by simp [entC_size]) (by omega) (fun j hj => by
        rw [Nat.add_assoc, hcell (1 + j) (by omega), actL_ent k a b c r d s p q j hj])
      simpa using this
    · have := row?_of_all (w := w1) (b := blk) (o := off + 18) (n := 2) (cs := (prinC s p).toList) (by simp [prinC_size]) (by omega) (fun j hj => by
        rw [Nat.add_assoc, hcell (18 + j) (by omega), actL_prin k a b c r d s p q j hj])
      simpa using this
    · rw [hcell 23 (by omega), actL_pol]
  have hl := law_of (env26 40 _) hO (startOk_nil (show 10 ≤ 40 by omega) w) (args := [.agg (opqs 33), .bool zero]) (by
    simp only [wfs, wf, and_true]
    refine ⟨(wfs_iff _).2 fun v hv => ?_, (ones_iff _).2 fun v hv => ?_⟩
    · simp only [opqs, List.mem_map] at hv; obtain ⟨i, _, rfl⟩ := hv; simp only [wf]
    · simp only [opqs, List.mem_map] at hv; obtain ⟨i, _, rfl⟩ := hv; rfl) (runs _ zero)
  have e := embs_opqOf (actL k a b c r d s p q) (actL_one k a b c r d s p q) (fun id => ⟨id, 0, 0⟩)
  rw [actL_len] at e
  simp only [embs, emb] at hl
  rw [e] at hl
  exact hl
end Go.Proofs.YtjjdjncdlfnhkaaGreatDoor
