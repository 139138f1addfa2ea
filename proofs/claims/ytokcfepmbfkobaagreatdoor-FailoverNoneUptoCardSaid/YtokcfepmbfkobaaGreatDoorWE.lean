/- law31.FailoverNone, whole. -/
import Derived.Test.YtokcfepmbfkobaaGreatDoorWD
import Derived.Test.YtokcfepmbfkobaaGreatDoorWB
import Derived.Test.YtokcfepmbfkobaaGreatDoorTE
import Derived.Test.YtokcfepmbfkobaaGreatDoorTC
import Derived.Test.YtokcfepmbfkobaaGreatDoorTD
import Derived.Test.YtokcfepmbfkobaaGreatDoorTG
import Derived.Lib.LaidTab
import Derived.Stop.LaidErr
namespace Go.Proofs.YtokcfepmbfkobaaGreatDoor
open Go.RowKit Go.WW Go.Mini Go.MiniT
theorem join_c : JoinC Tryz.prog 190 := fun bk o c xs sep w h1 h2 h3 h4 h5 => Tryz.strings_Join bk o c xs sep w h1 h2 h3 h4 h5
theorem turn_is [Opq] {G : GB} (w : World) : OrcIs G Tryz.prog w.heap.size w (orcTurn 141) := orcTurn_ok (Nat.le_refl _) fun x b o cap ps hp hl w' hc => turned_c x b o cap ps hp hl w' hc
theorem sum_facts : ∀ p ∈ sumTab, SumFact sumE shaT 60 60 8 p.1 p.2 := by
  intro p hp
  simp only [sumTab, List.mem_cons, List.not_mem_nil, or_false] at hp
  rcases hp with rfl | rfl
  · exact sum0
  · exact sum1
/-- What the tables of sha hold. -/
def ShaAt (w : World) : Prop := w.heap[0]? = some (.cells ((shaT.l0.map fun (n : Nat) => Value.int .u32 n).toArray) 135 (0, 0)) ∧ w.heap[1]? = some (.cells ((shaT.l1.map fun (n : Nat) => Value.int .u32 n).toArray) 190 (0, 0))
set_option maxRecDepth 100000 in
theorem failNone_c (k f t m i g c : Int) (ok : Bool) (s : Sl) (l : List UpdD) (w : World) (h : UpdsAt w s.a l) (hs : ShaAt w) :
    Calls Tryz.prog 3 #[.agg (msgL k f t m i g c ok s l).toArray] w fun e w' => e = .returned (.bool true) ∧ Below w.heap.size w w' := by
  letI O : Opq := opqOf (msgL k f t m i g c ok s l) (msgL_one k f t m i g c ok s l)
  have hO : OrcOk (lawE (boolOf (FewP l))) Tryz.prog w.heap.size w := by
    refine orcOk_of (orcIs_or ?_ (orcIs_or (orcJoin_ok (Nat.le_refl _) join_c) (orcSum_ok (env31 9 (orcTurn 141)) (E := sumE) rfl turn_is (by decide) (by decide) sum_facts (Nat.le_refl _) rfl)))
    refine orcArgs_ok (Nat.le_refl _) (vals := #[.slice s.a l.length s.cap, .int .i64 4]) (fun σ => rfl) ?_
    intro w1 hb
    exact few_c s.a s.cap l w1 (h.later hb)
  have hS := startOk_sha (G := (lawE (boolOf (FewP l))).G) shaT (w := w) (show 8 ≤ 40 by omega) (show 0 < 8 by omega) (show 1 < 8 by omega) (f0 := (0, 0)) (f1 := (0, 0)) (Nat.le_refl _) (Nat.le_refl _) hs.1 hs.2
  have hl := law_of (env31 40 _) hO hS (args := [.agg (opqs 9)]) (by
    simp only [wfs, wf, and_true]
    refine ⟨(wfs_iff _).2 fun v hv => ?_, (ones_iff _).2 fun v hv => ?_⟩
    · simp only [opqs, List.mem_map] at hv; obtain ⟨i, _, rfl⟩ := hv; simp only [wf]
    · simp only [opqs, List.mem_map] at hv; obtain ⟨i, _, rfl⟩ := hv; rfl) (runs _)
  have e := embs_opqOf (msgL k f t m i g c ok s l) (msgL_one k f t m i g c ok s l) (fun id => ⟨id, 0, 0⟩)
  have e9 : (msgL k f t m i g c ok s l).length = 9 := by simp [msgL]
  rw [e9] at e
  simp only [embs, emb] at hl
  rw [e] at hl
  exact hl
end Go.Proofs.YtokcfepmbfkobaaGreatDoor
