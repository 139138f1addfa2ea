/- law29.UpdateNone, whole. -/
import Derived.Test.YtgmoeigmcdpkoaaGreatDoorWD
import Derived.Test.YtgmoeigmcdpkoaaGreatDoorWB
import Derived.Test.YtgmoeigmcdpkoaaGreatDoorTK
import Derived.Test.YtgmoeigmcdpkoaaGreatDoorTC
import Derived.Test.YtgmoeigmcdpkoaaGreatDoorTD
import Derived.Test.YtgmoeigmcdpkoaaGreatDoorTE
import Derived.Test.YtgmoeigmcdpkoaaGreatDoorTG
import Derived.Test.YtgmoeigmcdpkoaaGreatDoorTL
import Derived.Lib.LaidTab
import Derived.Stop.LaidErr
namespace Go.Proofs.YtgmoeigmcdpkoaaGreatDoor
open Go.RowKit Go.WW Go.Mini Go.MiniT
theorem join_c : JoinC Tryz.prog 172 := fun bk o c xs sep w h1 h2 h3 h4 h5 => Tryz.strings_Join bk o c xs sep w h1 h2 h3 h4 h5
theorem turn_is [Opq] {G : GB} (w : World) : OrcIs G Tryz.prog w.heap.size w (orcTurn 105) := orcTurn_ok (Nat.le_refl _) fun x b o cap ps hp hl w' hc => turned_c x b o cap ps hp hl w' hc
theorem sum_facts : ∀ p ∈ sumTab, SumFact sumE shaT 33 60 10 p.1 p.2 := by
  intro p hp
  simp only [sumTab, List.mem_cons, List.not_mem_nil, or_false] at hp
  rcases hp with rfl | rfl | rfl | rfl
  · exact sum0
  · exact sum1
  · exact sum2
  · exact sum3
theorem index_c {W : World} (h : W.ShapedOpen Tryz.prog) (s t : ByteArray) (w : World) (hb : Below W.heap.size W w) (hs : s.size < 4294967281) :
    Calls Tryz.prog 218 #[.string s, .string t] w (fun e w' => e = .returned (.int .i64 (Lib.index s.data.toList t.data.toList)) ∧ w' = w) := by
  obtain ⟨m, hm⟩ := Tryz.laysM219.s1_3 W h
  have hm' : w.cell? ⟨4, 0, none⟩ = some (.int .i64 m) := by
    have hlt := World.block_lt_of_cell? W _ hm
    rw [hb.cell (p := ⟨4, 0, none⟩) hlt]; exact hm
  exact Any.stringslite_Index { Tryz.laysM219 with } s t m w hs hm'
/-- What the tables of sha hold. -/
def ShaAt (w : World) : Prop := w.heap[0]? = some (.cells ((shaT.l0.map fun (n : Nat) => Value.int .u32 n).toArray) 114 (0, 0)) ∧ w.heap[1]? = some (.cells ((shaT.l1.map fun (n : Nat) => Value.int .u32 n).toArray) 159 (0, 0))
theorem embs_take (l : List Value) (hl : ∀ v ∈ l, v.cells = #[v] ∧ v.oneCell' = true) (n : Nat) (h : n ≤ l.length) (σ : Sg) : @embs (opqOf l hl) σ (opqs n) = l.take n := by
  rw [@embs_map (opqOf l hl)]
  apply List.ext_getElem (by simp [opqs]; omega)
  intro i h1 h2
  simp only [opqs, List.getElem_map, List.getElem_range]
  show (l[i]?).getD .nilFunc = _
  have hi : i < l.length := by simp [opqs] at h1; omega
  rw [List.getElem?_eq_getElem hi, List.getElem_take]; rfl
set_option maxRecDepth 100000 in
theorem updNone_c (x : UpdD) (s : Sl) (r : ERaw) (i : Int) (w : World) (h : UpdAt w s r x) (hs : ShaAt w) (hsh : w.ShapedOpen Tryz.prog) :
    Calls Tryz.prog 3 #[.agg (updOf x s r), .int .i64 i] w fun e w' => e = .returned (.bool true) ∧ Below w.heap.size w w' := by
  letI O : Opq := opqOf (updL x s r i) (updL_one x s r i)
  have hlen : (updOf x s r).toList.length = 37 := by simp [updOf, updC_size]
  have e37 : ∀ σ : Sg, embs σ (opqs 37) = (updOf x s r).toList := fun σ => by
    rw [embs_take (updL x s r i) (updL_one x s r i) 37 (by simp only [updL, List.length_append]; omega) σ]
    simp only [updL]
    rw [List.take_append_of_le_length (by omega), List.take_of_length_le (by omega)]
  have eI : O.val 37 = .int .i64 i := by
    show ((updL x s r i)[37]?).getD .nilFunc = _
    simp only [updL]
    rw [List.getElem?_append_right (by omega), hlen]; rfl
  have hO : OrcOk (lawE (boolOf (¬ FineU x.n x.d x.q x.pn))) Tryz.prog w.heap.size w := by
    refine orcOk_of (orcIs_or ?_ (orcIs_or (orcJoin_ok (Nat.le_refl _) join_c) (orcIs_or (orcIndex_ok (Nat.le_refl _) (fun s t w1 hb hs => index_c hsh s t w1 hb hs)) (orcIs_or (orcClone_ok (Nat.le_refl _) Tryz.clone64) (orcIs_or (orcClone_ok (Nat.le_refl _) Tryz.clone65) (orcIs_or (orcClone_ok (Nat.le_refl _) Tryz.clone66) (orcIs_or (orcIter_ok (Nat.le_refl _) eI (fun y p o1 q o2 w1 h1 h2 => iter_c y p o1 q o2 i w1 h1 h2)) (orcSum_ok (env29 11 (orcTurn 105)) (E := sumE) rfl turn_is (by decide) (by decide) sum_facts (Nat.le_refl _) rfl))))))))
    refine orcArgs_ok (Nat.le_refl _) (vals := #[.agg (updOf x s r)]) (fun σ => by simp only [embs, emb, e37]) ?_
    intro w1 hb
    have h1 := h.later hb
    exact large_c _ _ _ _ _ _ _ _ _ _ _ _ _ w1 h1.1 h1.2.1 h1.2.2.1 h1.2.2.2
  have hS := startOk_sha (G := (lawE (boolOf (¬ FineU x.n x.d x.q x.pn))).G) shaT (w := w) (show 10 ≤ 40 by omega) (show 0 < 10 by omega) (show 1 < 10 by omega) (f0 := (0, 0)) (f1 := (0, 0)) (Nat.le_refl _) (Nat.le_refl _) hs.1 hs.2
  have hl := law_of (env29 40 _) hO hS (args := [.agg (opqs 37), .opq 37]) (by
    simp only [wfs, wf, and_true]
    refine ⟨(wfs_iff _).2 fun v hv => ?_, (ones_iff _).2 fun v hv => ?_⟩
    · simp only [opqs, List.mem_map] at hv; obtain ⟨i, _, rfl⟩ := hv; simp only [wf]
    · simp only [opqs, List.mem_map] at hv; obtain ⟨i, _, rfl⟩ := hv; rfl) (runs _)
  simp only [embs, emb, e37, eI] at hl
  exact hl
end Go.Proofs.YtgmoeigmcdpkoaaGreatDoor
