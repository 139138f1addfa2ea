/- law27.known returns true. -/
import Derived.Test.YtpibcnchkndejaaGreatDoorWB
import Derived.Test.YtpibcnchkndejaaGreatDoorKC
import Derived.Test.YtpibcnchkndejaaGreatDoorKB
import Derived.Lib.LaidTab
import Derived.Test.YtpibcnchkndejaaGreatDoorWD
import Derived.Test.YtpibcnchkndejaaGreatDoorLW
namespace Go.Proofs.YtpibcnchkndejaaGreatDoor
open Go.RowKit Go.WW Go.Mini Go.MiniT
theorem join_c : JoinC Tryz.prog 76 := fun bk o c xs sep w h1 h2 h3 h4 h5 => Tryz.strings_Join bk o c xs sep w h1 h2 h3 h4 h5
theorem turn_is : TurnC := fun x b o cap ps hp hl w' hc => turned_c x b o cap ps hp hl w' hc
theorem choice_is : ChoiceC := fun x y z w => choice_c x y z w
/-- What the variables that are read hold. -/
structure VarsAt (w : World) : Prop where
  s0 : w.heap[shaT.s0]? = some (.cells ((shaT.l0.map fun (n : Nat) => Value.int .u32 n).toArray) shaT.t0 (0, 0))
  s1 : w.heap[shaT.s1]? = some (.cells ((shaT.l1.map fun (n : Nat) => Value.int .u32 n).toArray) shaT.t1 (0, 0))
  max : ∃ m : Int, w.cell? ⟨0, 0, none⟩ = some (.int .i64 m)
theorem VarsAt.kept {W w : World} (h : VarsAt W) (hb : Below W.heap.size W w) : VarsAt w := by
  obtain ⟨h0, h1, m, hm⟩ := h
  refine ⟨?_, ?_, m, ?_⟩
  · rw [hb.block _ (Array.getElem?_eq_some_iff.1 h0).1]; exact h0
  · rw [hb.block _ (Array.getElem?_eq_some_iff.1 h1).1]; exact h1
  · have hlt := World.block_lt_of_cell? W _ hm
    rw [hb.cell (p := ⟨0, 0, none⟩) hlt]; exact hm
theorem index_c {W : World} (h : VarsAt W) (s t : ByteArray) (w : World) (hb : Kept (· < W.heap.size) W w) (hs : s.size < 4294967281) :
    Calls Tryz.prog 215 #[.string s, .string t] w (fun e w' => e = .returned (.int .i64 (Lib.index s.data.toList t.data.toList)) ∧ w' = w) := by
  obtain ⟨m, hm⟩ := (h.kept hb.below).max
  exact Any.stringslite_Index { Tryz.laysM219 with } s t m w hs hm
theorem known_c (w : World) (h : VarsAt w) : Calls Tryz.prog 6 #[] w fun e w' => e = .returned (.bool true) ∧ Below w.heap.size w w' := by
  letI O : Opq := noOpq
  have hW : ∀ k, k < w.heap.size → k < w.heap.size := fun _ hk => hk
  have hO : OrcOk knownE Tryz.prog (· < w.heap.size) w :=
    orcOk_of (orcIs_or (orcFn_ok (fn_facts turn_is choice_is) rfl hW) (orcIs_or (orcJoin_ok hW join_c) (orcIndex_ok hW (fun s t w1 hb hs => index_c h s t w1 hb hs))))
  have hS := startOk_sha (G := knownE.G) shaT (w := w) (show 5 ≤ 40 by omega) (show shaT.s0 < 5 by decide) (show shaT.s1 < 5 by decide) (f0 := (0, 0)) (f1 := (0, 0)) rfl rfl h.s0 h.s1
  have hl := law_of (envW 40 knownO) hO hS (args := []) (by simp only [wfs]) known_run
  simp only [embs] at hl
  exact hl
end Go.Proofs.YtpibcnchkndejaaGreatDoor
/- law27.PasswordNone, whole. -/
namespace Go.Proofs.YtpibcnchkndejaaGreatDoor
open Go.RowKit Go.WW Go.Mini Go.MiniT
set_option maxRecDepth 100000 in
theorem pwNone_c (x : ActD) (zero : Bool) (w : World) (hx : ActAt w x) (hv : VarsAt w) :
    Calls Tryz.prog 4 #[.agg (actD x), .bool zero] w fun e w' => e = .returned (.bool true) ∧ Below w.heap.size w w' := by
  letI O : Opq := opqOf (actD x).toList (actD_one x)
  have hW : ∀ k, k < w.heap.size → k < w.heap.size := fun _ hk => hk
  have e11 : ∀ σ : Sg, embs σ (opqs 11) = (actD x).toList := embs_opqOf (actD x).toList (actD_one x)
  have hO : OrcOk (lawE (boolOf (fitsP x))) Tryz.prog (· < w.heap.size) w := by
    refine orcOk_of (orcIs_or (orcArgs_ok hW (vals := #[.agg (actD x)]) (fun σ => by simp only [embs, emb, e11]) ?_) (orcArgs_ok hW (vals := #[]) (fun σ => rfl) ?_))
    · intro w1 hb
      exact fits_c x w1 (hx.later hb.below)
    · intro w1 hb
      exact known_c w1 (hv.kept hb.below)
  have hl := law_of (envW 40 _) hO (startOk_nil (show 5 ≤ 40 by omega) w) (args := [.agg (opqs 11), .bool zero]) (by
    simp only [wfs, wf, and_true]
    refine ⟨(wfs_iff _).2 fun v hv => ?_, (ones_iff _).2 fun v hv => ?_⟩
    · simp only [opqs, List.mem_map] at hv; obtain ⟨i, _, rfl⟩ := hv; simp only [wf]
    · simp only [opqs, List.mem_map] at hv; obtain ⟨i, _, rfl⟩ := hv; rfl) (runs _ zero)
  simp only [embs, emb, e11] at hl
  exact hl
end Go.Proofs.YtpibcnchkndejaaGreatDoor
