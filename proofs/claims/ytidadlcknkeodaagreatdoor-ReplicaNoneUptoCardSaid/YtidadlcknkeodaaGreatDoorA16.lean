/- A part of the proof. -/
import Derived.Test.YtidadlcknkeodaaGreatDoorA08
import Derived.Test.YtidadlcknkeodaaGreatDoorA09
import Derived.Test.YtidadlcknkeodaaGreatDoorA15
import Derived.Test.YtidadlcknkeodaaGreatDoorA06
import Derived.Lib.LaidTab
import Derived.Test.YtidadlcknkeodaaGreatDoorA10
import Derived.Test.YtidadlcknkeodaaGreatDoorRows
import Derived.Deep.Slices
import Derived.ChangeArms
import Derived.ProofKit
import Derived.OpenShut
set_option maxRecDepth 100000
set_option maxHeartbeats 4000000
/- law30.known returns true. -/
namespace Go.MiniT
open Go Go.Mini
abbrev noOpq : Opq := opqOf [] (fun _ h => by cases h)
theorem blocks_facts : ∀ p ∈ blocksT, AddFact p.1 p.2.1 p.2.2 := by
  unfold blocksT
  intro p hp
  simp only [List.mem_cons, List.not_mem_nil, or_false] at hp
  rcases hp with rfl | rfl | rfl | rfl | rfl | rfl | rfl | rfl | rfl | rfl | rfl | rfl | rfl | rfl | rfl | rfl
  · exact a0
  · exact a1
  · exact a2
  · exact a3
  · exact a4
  · exact a5
  · exact a6
  · exact a7
  · exact a8
  · exact a9
  · exact a10
  · exact a11
  · exact a12
  · exact a13
  · exact a14
  · exact a15
end Go.MiniT
namespace Go.Proofs.YtidadlcknkeodaaGreatDoor
open Go.RowKit Go.WW Go.Mini Go.MiniT
theorem join_c : JoinC Tryz.prog 183 := fun bk o c xs sep w h1 h2 h3 h4 h5 => Tryz.strings_Join bk o c xs sep w h1 h2 h3 h4 h5
theorem turn_is : TurnC := fun x b o cap ps hp hl w' hc => turned_c x b o cap ps hp hl w' hc
theorem choice_is : ChoiceC := fun x y z w => choice_c x y z w
structure VarsAt (w : World) : Prop where
  s0 : w.heap[shaT.s0]? = some (.cells ((shaT.l0.map fun (n : Nat) => Value.int .u32 n).toArray) shaT.t0 (0, 0))
  s1 : w.heap[shaT.s1]? = some (.cells ((shaT.l1.map fun (n : Nat) => Value.int .u32 n).toArray) shaT.t1 (0, 0))
  max : ∃ m : Int, w.cell? ⟨3, 0, none⟩ = some (.int .i64 m)
theorem VarsAt.kept {W w : World} (h : VarsAt W) (hb : Below W.heap.size W w) : VarsAt w := by
  obtain ⟨h0, h1, m, hm⟩ := h
  refine ⟨?_, ?_, m, ?_⟩
  · rw [hb.block _ (Array.getElem?_eq_some_iff.1 h0).1]; exact h0
  · rw [hb.block _ (Array.getElem?_eq_some_iff.1 h1).1]; exact h1
  · have hlt := World.block_lt_of_cell? W _ hm
    rw [hb.cell (p := ⟨3, 0, none⟩) hlt]; exact hm
theorem index_c {W : World} (h : VarsAt W) (s t : ByteArray) (w : World) (hb : Kept (· < W.heap.size) W w) (hs : s.size < 4294967281) :
    Calls Tryz.prog 233 #[.string s, .string t] w (fun e w' => e = .returned (.int .i64 (Lib.index s.data.toList t.data.toList)) ∧ w' = w) := by
  obtain ⟨m, hm⟩ := (h.kept hb.below).max
  exact Any.stringslite_Index { Tryz.laysM219 with } s t m w hs hm
theorem inner_ok [O : Opq] (w : World) (h : VarsAt w) (hW : ∀ k, k < w.heap.size → k < w.heap.size) : OrcOk innerE Tryz.prog (· < w.heap.size) w :=
  orcOk_of (orcIs_or (orcAdd_ok turn_is choice_is blocks_facts rfl hW) (orcIs_or (orcPolicies_ok hW) (orcIs_or (orcJoin_ok hW join_c) (orcIs_or (orcIndex_ok hW (fun s t w1 hb hs => index_c h s t w1 hb hs)) (orcIs_or (orcClone_ok hW Tryz.cloneS) (orcIs_or (orcClone_ok hW Tryz.cloneE) (orcClone_ok hW Tryz.cloneP)))))))
theorem known_c (w : World) (h : VarsAt w) : Calls Tryz.prog 5 #[] w fun e w' => e = .returned (.bool true) ∧ Below w.heap.size w w' := by
  letI O : Opq := noOpq
  have hW : ∀ k, k < w.heap.size → k < w.heap.size := fun _ hk => hk
  have hI := inner_ok w h hW
  have hE : EnvOk innerE Tryz.prog := envW 40 innerO
  have hO : OrcOk knownE Tryz.prog (· < w.heap.size) w :=
    orcOk_of (orcIs_or hI (orcIs_or (orcTakeErr_ok (E := innerE) hE hW) (orcIs_or (orcTake_ok hE hI hW takeBy2) (orcTake_ok hE hI hW takeBy3))))
  have hS := startOk_sha (G := knownE.G) shaT (w := w) (show 11 ≤ 40 by omega) (show shaT.s0 < 11 by decide) (show shaT.s1 < 11 by decide) (f0 := (0, 0)) (f1 := (0, 0)) rfl rfl h.s0 h.s1
  have hl := law_of (envW 40 knownO) hO hS (args := []) (by simp only [wfs]) known_run
  simp only [embs] at hl
  exact hl
end Go.Proofs.YtidadlcknkeodaaGreatDoor
/- law30.ReplicaNone, whole. -/
namespace Go.Proofs.YtidadlcknkeodaaGreatDoor
open Go.RowKit Go.WW Go.Mini Go.MiniT
theorem execOp_buildLog0 (ρ : Operand → Value) (dst : Option Tmp) (ty : TypeId) (pos : String) (after : Array Edge) (guard : Option (Nat × Bool)) :
    execOp ρ { dst, op := .build 48 #[], type := ty, pos, after, guard } = structBuild 48 #[] := by simp [execOp, structBuild]
theorem buildLog0 (w : World) : (structBuild 48 #[]).run Tryz.prog w = .ok (.value (.agg #[.slice none 0 0, .slice none 0 0, .pointer none])) w := by kernel_rfl
theorem execOp_buildPrim0 (ρ : Operand → Value) (dst : Option Tmp) (ty : TypeId) (pos : String) (after : Array Edge) (guard : Option (Nat × Bool)) :
    execOp ρ { dst, op := .build 63 #[], type := ty, pos, after, guard } = structBuild 63 #[] := by simp [execOp, structBuild]
theorem buildPrim0 (w : World) : (structBuild 63 #[]).run Tryz.prog w = .ok (.value (.agg #[.pointer none, .int .i64 0, .int .i64 0])) w := by kernel_rfl
theorem execOp_buildReplica0 (ρ : Operand → Value) (dst : Option Tmp) (ty : TypeId) (pos : String) (after : Array Edge) (guard : Option (Nat × Bool)) :
    execOp ρ { dst, op := .build 79 #[], type := ty, pos, after, guard } = structBuild 79 #[] := by simp [execOp, structBuild]
theorem buildReplica0 (w : World) : (structBuild 79 #[]).run Tryz.prog w = .ok (.value (.agg zeroC)) w := by kernel_rfl
attribute [go_sem] buildLog0 buildPrim0 buildReplica0
attribute [go_sem ↓] execOp_buildLog0 execOp_buildPrim0 execOp_buildReplica0
theorem ansC_0 : ansC[0]? = some (.int .i64 0) := rfl
theorem askC_0 : askC[0]? = some (.string ⟨#[]⟩) := rfl
theorem askC_1 : askC[1]? = some (.int .i64 0) := rfl
theorem askC_2 : askC[2]? = some (.slice none 0 0) := rfl
theorem putRowAns (w : World) (t : TypeId) : putRow (w.alloc (.cells #[.int .i64 0, .int .i64 0, .slice none 0 0, .slice none 0 0, .slice none 0 0] t)) w.heap.size 0 ansC = w.alloc (.cells ansC t) := putRow_alloc_whole rfl rfl
theorem putRowAsk (w : World) (t : TypeId) : putRow (w.alloc (.cells #[.string ⟨#[]⟩, .int .i64 0, .slice none 0 0] t)) w.heap.size 0 askC = w.alloc (.cells askC t) := putRow_alloc_whole rfl rfl
attribute [go_sem] ansC_0 askC_0 askC_1 askC_2 putRowAns putRowAsk
theorem storeRefRep0 (w : World) (b o : Nat) (y : ByteArray) (a : Option Addr) (n c : Nat) : (structStore 58 (.pointer (some ⟨b, o, none⟩)) (.agg (repC y (.slice a n c)))).run Tryz.prog w = storeOut Tryz.prog 58 w b o (repC y (.slice a n c)) (canPut w b o 7) := storeRefRep w b o _ (repC_size _ _) (repC_one _ _ _ _)
attribute [go_sem] storeRefRep0
theorem repNoneLaw_c (re : ByteArray) (i t m k : Int) (s : Sl) (n : Prin) (r : ERaw) (d : Entry) (q : Policy) (pn : ByteArray) (f a b : Int) (w : World) (hs : re.size ≤ lim) (hn : PrinAt w s n) (he : EntAt w r d) (hq : q.name.size ≤ lim) (hp : pn.size ≤ lim) (hv : VarsAt w) (hc : Consts04 w) :
    Calls Tryz.prog 3 #[.string re, .agg (updC i t m k s n r d q pn f a b)] w fun e w' => e = .returned (.bool true) ∧ Below w.heap.size w w' := by
  have HL : ∀ w1, Below w.heap.size w w1 → Calls Tryz.prog 4 #[.agg (updC i t m k s n r d q pn f a b)] w1 fun e w' => ∃ x, e = .returned (.bool x) ∧ Below w1.heap.size w1 w' := fun w1 hb =>
    (large_c i t m k s n r d q pn f a b w1 (hn.later hb) (he.later hb) hq hp).mono fun e w' h => ⟨_, h⟩
  have HK : ∀ w1, Below w.heap.size w w1 → Calls Tryz.prog 5 #[] w1 fun e w' => e = .returned (.bool true) ∧ Below w1.heap.size w1 w' := fun w1 hb => known_c w1 (hv.kept hb)
  have hU1 := updC_one i t m k s n r d q pn f a b
  have hU2 := updC_size i t m k s n r d q pn f a b
  generalize updC i t m k s n r d q pn f a b = U at *
  clear hn he hq hp
  have hx := World.alloc_heap_new w (.cells U 36)
  have hb0 := below_new (Below.refl _ w) (.cells U 36)
  have hrow : row? (w.alloc (.cells U 36)) w.heap.size 0 37 = some U := by rw [row?_of_cells hx]; exact subRow_whole hU2
  obtain ⟨W, hW⟩ : ∃ W, W = w.alloc (.cells U 36) := ⟨_, rfl⟩
  go_enter Tryz.func3, Tryz.ntmps3
  go_wp2_with fail
  · refine (HL _ hb0).mono ?_
    rintro z w1 ⟨x, rfl, hb1⟩
    dsimp only
    cases x
    · go_wp2_with fail
      have h60 : re.size ≤ 60 := by omega
      have hB1 := below_step hb0 hb1
      refine (newPrimary_no _ w1 (.inl rfl)).mono ?_
      rintro z w2 ⟨rfl, rfl⟩
      dsimp only
      go_wp2_with fail
      refine (newPrimary_no _ _ (.inr ⟨w1.heap.size, rfl, World.alloc_heap_new _ _⟩)).mono ?_
      rintro z w2 ⟨rfl, rfl⟩
      have hB2 := below_new hB1 (.cells #[.slice none 0 0, .slice none 0 0, .pointer none] 48)
      have hx2 : (w1.alloc (.cells #[.slice none 0 0, .slice none 0 0, .pointer none] 48)).heap[w.heap.size]? = some (.cells U 36) := by
        rw [Below.heap_alloc _ _ _ (by have := hb1.size; simp at this; omega), hb1.block _ (by simp)]; exact hx
      generalize w1.alloc (.cells #[.slice none 0 0, .slice none 0 0, .pointer none] 48) = W2 at *
      dsimp only
      go_wp2_with fail
      obtain ⟨ok, hok⟩ : ∃ ok, realmOk re = ok := ⟨_, rfl⟩
      obtain ⟨e, hee⟩ : ∃ e : Int, e = if ok then 0 else 2 := ⟨_, rfl⟩
      have hRep : Calls Tryz.prog 7 #[.string re] W2 fun x w' => ∃ v, x = .returned (.tuple #[.pointer v, .int .i64 e]) ∧ v.isSome = ok ∧ Below W2.heap.size W2 w' := by
        rw [hee]
        cases ok
        · exact (newReplica_no re W2 (by unfold lim; omega) hok).mono fun x w' h => ⟨none, h.1, rfl, h.2⟩
        · refine (newReplica_ok turn_is choice_is re W2 (by omega) hok (fun e => ?_) ⟨(hv.kept hB2).s0, (hv.kept hB2).s1⟩).mono fun x w' ⟨c, h1, h2⟩ => ⟨_, h1, rfl, h2⟩
          subst e; revert hok; decide
      have hNew : ∀ w3, Below w.heap.size w w3 → Calls Tryz.prog 8 #[.string re] w3 fun x w' => ∃ y va vn vc, x = .returned (.tuple #[.agg (repC y (.slice va vn vc)), .int .i64 e]) ∧ Below w3.heap.size w3 w' := fun w3 hB3 => by
        rw [hee]; exact ref30New_c re w3 (by omega) ok hok (hc.later hB3)
      have HE := Lib.hid hee
      clear hee hok
      refine hRep.mono ?_
      rintro z w3 ⟨v, rfl, hv3, hb3⟩
      have hB3 := below_step hB2 hb3
      have hx3 := (hb3.block _ (Array.getElem?_eq_some_iff.1 hx2).1).trans hx2
      dsimp only
      go_wp2_with fail
      refine (hNew w3 hB3).mono ?_
      rintro z w4 ⟨y, va, vn, vc, rfl, hb4⟩
      have hB4 := below_step hB3 hb4
      have hx4 := (hb4.block _ (Array.getElem?_eq_some_iff.1 hx3).1).trans hx3
      have hone := repC_one y va vn vc
      dsimp only
      go_wp2_with fail
      rw [putRow_alloc_whole rfl (by rw [repC_size]; rfl)]
      have hB5 := below_new hB4 (.cells (repC y (.slice va vn vc)) 58)
      have hx5 : (w4.alloc (.cells (repC y (.slice va vn vc)) 58)).heap[w.heap.size]? = some (.cells U 36) := (Below.heap_alloc _ _ _ (Array.getElem?_eq_some_iff.1 hx4).1).trans hx4
      clear hx4 hB4 hb4 hone hNew hRep hb3 hx3 hB3 hx2 hB2 hb1 hB1 hb0 hrow hx
      generalize w4.alloc (.cells (repC y (.slice va vn vc)) 58) = W5 at *
      have hve : v = none ∧ e = 2 ∨ ∃ p, v = some p ∧ e = 0 := by
        have := HE.out
        cases v
        · left; subst hv3; exact ⟨rfl, this⟩
        · right; subst hv3; exact ⟨_, rfl, this⟩
      refine (num30_c e W5).mono ?_
      rintro z w' ⟨rfl, rfl⟩
      dsimp only
      clear HE hv3
      rcases hve with ⟨rfl, rfl⟩ | ⟨p, rfl, rfl⟩
      all_goals
        go_wp2_with fail
        obtain ⟨W6, hW6⟩ : ∃ W6, W6 = (W5.alloc (.cells #[.pointer none, .int .i64 0, .int .i64 0] 63)).alloc (.cells #[.pointer none, .pointer (some ⟨W5.heap.size, 0, none⟩)] 39) := ⟨_, rfl⟩
        have hB6 : Below w.heap.size w W6 := by rw [hW6]; exact below_new (below_new hB5 _) _
        have hP6 : W6.heap[W5.heap.size]? = some (.cells #[.pointer none, .int .i64 0, .int .i64 0] 63) := by rw [hW6]; exact second_blk W5 _ _
        have hS6 : W6.heap[W5.heap.size + 1]? = some (.cells #[.pointer none, .pointer (some ⟨W5.heap.size, 0, none⟩)] 39) := by rw [hW6]; have := World.alloc_heap_new (W5.alloc (.cells #[.pointer none, .int .i64 0, .int .i64 0] 63)) (.cells #[.pointer none, .pointer (some ⟨W5.heap.size, 0, none⟩)] 39); simpa using this
        have hx6 : W6.heap[w.heap.size]? = some (.cells U 36) := by
          have hl := (Array.getElem?_eq_some_iff.1 hx5).1
          rw [hW6, Below.heap_alloc _ _ _ (by simp; omega), Below.heap_alloc _ _ _ hl]; exact hx5
        rw [← hW6]
        clear hW6
        have c0 : W6.cell? ⟨W5.heap.size + 1, 0, none⟩ = some (.pointer none) := cell_of_row W6 _ 0 _ _ _ hS6
        refine wp_loop_rounds 3 ?_
        rw [rounds_succ]
        go_wp2_with fail
        refine (answer_no _ askC W6 (.inl rfl)).mono ?_
        rintro z w7 ⟨rfl, hb7⟩
        dsimp only
        have hx7 : (w7.alloc (.cells ansC 67)).heap[w.heap.size]? = some (.cells U 36) := by
          rw [Below.heap_alloc _ _ _ (by have := (Array.getElem?_eq_some_iff.1 hx6).1; have := hb7.size; omega), hb7.block _ (Array.getElem?_eq_some_iff.1 hx6).1]; exact hx6
        have hr7 : row? (w7.alloc (.cells ansC 67)) w.heap.size 0 37 = some U := by rw [row?_of_cells hx7]; exact subRow_whole hU2
        go_wp2_with fail
        have hA7 := below_new hb7 (.cells ansC 67)
        refine (append_no _ U _ (.inl rfl)).mono ?_
        rintro z w8 ⟨rfl, hb8⟩
        dsimp only
        go_wp2_with fail
        refine (primLog_no _ w8 (.inl rfl)).mono ?_
        rintro z w' ⟨rfl, rfl⟩
        dsimp only
        go_wp2_with fail
        refine (primCopy_no _ w8 (.inl rfl)).mono ?_
        rintro z w' ⟨rfl, rfl⟩
        dsimp only
        have h68 := below_step hA7 hb8
        have hS8 := (h68.block _ (Array.getElem?_eq_some_iff.1 hS6).1).trans hS6
        have hP8 := (h68.block _ (Array.getElem?_eq_some_iff.1 hP6).1).trans hP6
        have hx8 := (h68.block _ (Array.getElem?_eq_some_iff.1 hx6).1).trans hx6
        have hB8 := below_step hB6 h68
        have hN8 : PrimNo w8 (.pointer (some ⟨W5.heap.size, 0, none⟩)) := .inr ⟨_, rfl, hP8⟩
        have c1 : w8.cell? ⟨W5.heap.size + 1, 1, none⟩ = some (.pointer (some ⟨W5.heap.size, 0, none⟩)) := cell_of_row w8 _ 1 _ _ _ hS8
        clear hr7 hx7 c0 hA7 hb7 hb8 h68 hS6 hP6 hx6 hB6
        go_wp2_with fail
        rw [rounds_succ]
        go_wp2_with fail
        refine (answer_no _ askC w8 hN8).mono ?_
        rintro z w9 ⟨rfl, hb9⟩
        dsimp only
        have hA9 := below_new hb9 (.cells ansC 67)
        have hx9 := (hA9.block _ (Array.getElem?_eq_some_iff.1 hx8).1).trans hx8
        have hr9 : row? (w9.alloc (.cells ansC 67)) w.heap.size 0 37 = some U := by rw [row?_of_cells hx9]; exact subRow_whole hU2
        go_wp2_with fail
        refine (append_no _ U _ (hN8.later hA9)).mono ?_
        rintro z w10 ⟨rfl, hb10⟩
        dsimp only
        have h810 := below_step hA9 hb10
        have hN10 := hN8.later h810
        have hB10 := below_step hB8 h810
        clear hr9 hx9 hA9 hb9 hb10 h810 c1 hS8 hP8 hx8 hB8 hN8
        go_wp2_with fail
        refine (primLog_no _ w10 hN10).mono ?_
        rintro z w' ⟨rfl, rfl⟩
        dsimp only
        go_wp2_with fail
        refine (primCopy_no _ w10 hN10).mono ?_
        rintro z w' ⟨rfl, rfl⟩
        dsimp only
        clear hN10
        go_wp2_with fail
        rw [rounds_succ]
        go_wp2_with fail
        obtain ⟨W11, hW11⟩ : ∃ W11, W11 = (w10.alloc (.cells zeroC 79)).alloc (.cells #[.pointer none, .pointer (some ⟨w10.heap.size, 0, none⟩)] 49) := ⟨_, rfl⟩
        have hB11 : Below w.heap.size w W11 := by rw [hW11]; exact below_new (below_new hB10 _) _
        have hP11 : W11.heap[w10.heap.size]? = some (.cells zeroC 79) := by rw [hW11]; exact second_blk w10 _ _
        have hS11 : W11.heap[w10.heap.size + 1]? = some (.cells #[.pointer none, .pointer (some ⟨w10.heap.size, 0, none⟩)] 49) := by rw [hW11]; have := World.alloc_heap_new (w10.alloc (.cells zeroC 79)) (.cells #[.pointer none, .pointer (some ⟨w10.heap.size, 0, none⟩)] 49); simpa using this
        have c0 : W11.cell? ⟨w10.heap.size + 1, 0, none⟩ = some (.pointer none) := cell_of_row W11 _ 0 _ _ _ hS11
        rw [← hW11]
        clear hW11
        refine wp_loop_rounds 3 ?_
        rw [rounds_succ]
        go_wp2_with fail
        refine (ask_no _ W11 (.inl rfl)).mono ?_
        rintro z w12 ⟨rfl, hb12⟩
        dsimp only
        have hA12 := below_new hb12 (.cells askC 71)
        go_wp2_with fail
        refine (take_no _ _ (.inl rfl)).mono ?_
        rintro z w13 ⟨rfl, hb13⟩
        dsimp only
        have hD13 := below_step hA12 hb13
        go_wp2_with fail
        refine (repDb_no _ w13 (.inl rfl)).mono ?_
        rintro z w' ⟨rfl, rfl⟩
        dsimp only
        go_wp2_with fail
        refine (repCopy_no _ w13 (.inl rfl)).mono ?_
        rintro z w' ⟨rfl, rfl⟩
        dsimp only
        have hS13 := (hD13.block _ (Array.getElem?_eq_some_iff.1 hS11).1).trans hS11
        have hP13 := (hD13.block _ (Array.getElem?_eq_some_iff.1 hP11).1).trans hP11
        have hB13 := below_step hB11 hD13
        have hN13 : RepNo w13 (.pointer (some ⟨w10.heap.size, 0, none⟩)) := .inr ⟨_, rfl, hP13⟩
        have c1 : w13.cell? ⟨w10.heap.size + 1, 1, none⟩ = some (.pointer (some ⟨w10.heap.size, 0, none⟩)) := cell_of_row w13 _ 1 _ _ _ hS13
        clear c0 hA12 hb12 hb13 hD13 hS11 hP11 hB11
        go_wp2_with fail
        rw [rounds_succ]
        go_wp2_with fail
        refine (ask_no _ w13 hN13).mono ?_
        rintro z w14 ⟨rfl, hb14⟩
        dsimp only
        have hA14 := below_new hb14 (.cells askC 71)
        go_wp2_with fail
        refine (take_no _ _ (hN13.later hA14)).mono ?_
        rintro z w15 ⟨rfl, hb15⟩
        dsimp only
        have hD15 := below_step hA14 hb15
        go_wp2_with fail
        refine (repDb_no _ w15 (hN13.later hD15)).mono ?_
        rintro z w' ⟨rfl, rfl⟩
        dsimp only
        go_wp2_with fail
        refine (repCopy_no _ w15 (hN13.later hD15)).mono ?_
        rintro z w' ⟨rfl, rfl⟩
        dsimp only
        have hB15 := below_step hB13 hD15
        clear c1 hA14 hb14 hb15 hD15 hS13 hP13 hB13 hN13
        go_wp2_with fail
        rw [rounds_succ]
        go_wp2_with fail
        refine (HK _ hB15).mono ?_
        rintro z w16 ⟨rfl, hb16⟩
        dsimp only
        go_wp2_with fail
        go_ret
        exact ⟨rfl, below_step hB15 hb16⟩
    · go_wp2_with fail
      refine (HK _ (below_step hb0 hb1)).mono ?_
      rintro z w2 ⟨rfl, hb2⟩
      dsimp only
      go_wp2_with fail
      go_ret
      exact ⟨rfl, below_step (below_step hb0 hb1) hb2⟩
  · refine (HK _ hb0).mono ?_
    rintro z w1 ⟨rfl, hb1⟩
    dsimp only
    go_wp2_with fail
    go_ret
    exact ⟨rfl, below_step hb0 hb1⟩
end Go.Proofs.YtidadlcknkeodaaGreatDoor
/- An update as data. -/
namespace Go.WW
open Go.RowKit
structure UpdD where
  i : Int
  t : Int
  m : Int
  k : Int
  f : Int
  a : Int
  b : Int
  n : Prin
  d : Entry
  q : Policy
  pn : ByteArray
def updOf (x : UpdD) (s : Sl) (r : ERaw) : Array Value := updC x.i x.t x.m x.k s x.n r x.d x.q x.pn x.f x.a x.b
def UpdAt (w : World) (s : Sl) (r : ERaw) (x : UpdD) : Prop := PrinAt w s x.n ∧ EntAt w r x.d ∧ x.q.name.size ≤ lim ∧ x.pn.size ≤ lim
theorem UpdAt.later {w w' : World} {s : Sl} {r : ERaw} {x : UpdD} (h : UpdAt w s r x) (hb : Below w.heap.size w w') : UpdAt w' s r x := ⟨h.1.later hb, h.2.1.later hb, h.2.2.1, h.2.2.2⟩
end Go.WW
/- The reading of the arguments. -/
namespace Go.Proofs.YtidadlcknkeodaaGreatDoor
open Go.ChangeShapes Go.WideShapes Go.ChangeAt Go.RowKit Go.WW Go.Deep
section
variable {H : Type}
theorem bulk_pos (d : DataW H) : 1 ≤ Rows.uptoBulk d := by
  cases d with
  | lit l => cases l <;> simp [Rows.uptoBulk]
  | _ => simp [Rows.uptoBulk]
theorem bulk_len : ∀ (l : List (DataW H)), l.length ≤ Rows.uptoBulkAll l
  | [] => by simp [Rows.uptoBulkAll]
  | d :: l => by have := bulk_pos d; have := bulk_len l; simp [Rows.uptoBulkAll]; omega
theorem bulk_mem {d : DataW H} : ∀ {l : List (DataW H)}, d ∈ l → Rows.uptoBulk d ≤ Rows.uptoBulkAll l
  | [], h => by simp at h
  | e :: l, h => by
    rcases List.mem_cons.1 h with rfl | h
    · simp [Rows.uptoBulkAll]
    · have := bulk_mem h; simp [Rows.uptoBulkAll]; omega
end
theorem row?_of_all {w : World} {b o n : Nat} {cs : List Value} (hn : cs.length = n) (h0 : 0 < n) (h : ∀ j, j < n → w.cell? ⟨b, o + j, none⟩ = cs[j]?) : row? w b o n = some cs.toArray := by
  have hlast := h (n - 1) (by omega)
  rw [List.getElem?_eq_getElem (by omega)] at hlast
  unfold row?
  cases hb : w.heap[b]? with
  | none => exfalso; simp [World.cell?, hb] at hlast
  | some ob =>
    cases ob with
    | cells c t f =>
      rw [cell_of_row w b (o + (n - 1)) c t f hb] at hlast
      have hl := (Array.getElem?_eq_some_iff.1 hlast).1
      show (if o + n ≤ c.size then _ else _) = _
      rw [if_pos (by omega)]
      congr 1
      apply Array.ext_getElem?
      intro j
      rw [Array.getElem?_extract]
      by_cases hj : j < n
      · rw [if_pos (by omega), ← cell_of_row w b (o + j) c t f hb, h j hj]; simp
      · rw [if_neg (by omega)]; simp; omega
    | _ => exfalso; simp [World.cell?, hb] at hlast
section
variable {H : Type} {enc : TypeId × Value → H} {P : Program} {w : World} {base : Nat} {spare : Nat → Bool} {held : Bool}
theorem read_slice {t e : TypeId} {fuel k : Nat} {v : Value} {x : DataW H × List MemPlace} (ht : P.underlying t = some (.slice e)) (hC : P.cellsOf e = k) (h0 : 0 < k) (h : DataW.trod enc P w base spare held fuel t [v] = some x) (hb : Rows.uptoBulk x.1 ≤ 1048576) :
    ∃ (s : Sl) (n : Nat), v = .slice s.a n s.cap ∧ n ≤ 1048576 ∧ ∀ i, i < n → ∃ b o cs fuel' y, s.a = some ⟨b, o, none⟩ ∧ row? w b (o + i * k) k = some cs ∧ DataW.trod enc P w base spare held fuel' e cs.toList = some y ∧ Rows.uptoBulk y.1 ≤ 1048576 := by
  rcases open_slice ht h with ⟨hcs, rfl⟩ | ⟨a, len, cap, m, n, D, Pl, hcs, hba, hle, hmax, hm, hx, hel⟩
  · refine ⟨⟨none, 0⟩, 0, by simpa using hcs, by omega, fun i hi => by omega⟩
  · rw [hx] at hb
    simp only [Rows.uptoBulk] at hb
    have hlen := bulk_len ((List.range len).map D)
    simp only [List.length_map, List.length_range] at hlen
    refine ⟨⟨some a, cap⟩, len, by simpa using hcs, by omega, fun i hi => ?_⟩
    have hml : len ≤ m := by rw [hm]; split <;> omega
    obtain ⟨c0, hc0, _⟩ := hel 0 (by omega)
    rw [hC] at hc0
    obtain ⟨_, hl0, hat0⟩ := World.cells?_some hc0
    have hspot : a.spot = none := by
      have h1 := hat0 0 h0
      rw [List.getElem?_eq_getElem (by omega)] at h1
      simp only [Nat.zero_mul, Addr.add, if_true] at h1
      unfold World.cell? at h1
      split at h1
      · split at h1
        · cases h1
        · rename_i hs; simpa using hs
      · cases h1
    obtain ⟨b, o, sp⟩ := a
    dsimp only at hspot
    subst hspot
    obtain ⟨cs', hc', ht'⟩ := hel i (by omega)
    rw [hC] at hc'
    obtain ⟨_, hl', hat'⟩ := World.cells?_some hc'
    refine ⟨b, o, cs'.toArray, n, (D i, Pl i), rfl, row?_of_all hl' h0 (fun j hj => ?_), by simpa using ht', ?_⟩
    · have h1 := hat' j hj
      rw [Addr.add_mid, Addr.add_mid] at h1
      exact h1
    · have := bulk_mem (d := D i) (l := (List.range len).map D) (List.mem_map.2 ⟨i, by simpa using hi, rfl⟩)
      show Rows.uptoBulk (D i) ≤ _
      omega
end
end Go.Proofs.YtidadlcknkeodaaGreatDoor
/- The reading of the arguments: this program's types. -/
namespace Go.Proofs.YtidadlcknkeodaaGreatDoor
open Go.ChangeShapes Go.WideShapes Go.ChangeAt Go.RowKit Go.WW Go.Deep
theorem list_of {α : Type} {R : Nat → α → Prop} : ∀ {n : Nat}, (∀ i, i < n → ∃ a, R i a) → ∃ l : List α, l.length = n ∧ ∀ i a, l[i]? = some a → R i a
  | 0, _ => ⟨[], rfl, fun i a h => by simp at h⟩
  | n + 1, h => by
    obtain ⟨l, hl, hr⟩ := list_of (n := n) (fun i hi => h i (by omega))
    obtain ⟨a, ha⟩ := h n (by omega)
    refine ⟨l ++ [a], by simp [hl], fun i b hb => ?_⟩
    by_cases hi : i < n
    · rw [List.getElem?_append_left (by omega)] at hb; exact hr i b hb
    · have hil := (List.getElem?_eq_some_iff.1 hb).1
      simp [hl] at hil
      obtain rfl : i = n := by omega
      rw [List.getElem?_append_right (by omega)] at hb
      simp [hl] at hb
      subst hb; exact ha
theorem list_1 : ∀ {cs : List Value}, cs.length = 1 → ∃ c0, cs = [c0]
  | [c0], _ => ⟨c0, rfl⟩
theorem list_2 : ∀ {cs : List Value}, cs.length = 2 → ∃ c0 c1, cs = [c0, c1]
  | [c0, c1], _ => ⟨c0, c1, rfl⟩
theorem list_3 : ∀ {cs : List Value}, cs.length = 3 → ∃ c0 c1 c2, cs = [c0, c1, c2]
  | [c0, c1, c2], _ => ⟨c0, c1, c2, rfl⟩
theorem list_5 : ∀ {cs : List Value}, cs.length = 5 → ∃ c0 c1 c2 c3 c4, cs = [c0, c1, c2, c3, c4]
  | [c0, c1, c2, c3, c4], _ => ⟨c0, c1, c2, c3, c4, rfl⟩
theorem list_10 : ∀ {cs : List Value}, cs.length = 10 → ∃ c0 c1 c2 c3 c4 c5 c6 c7 c8 c9, cs = [c0, c1, c2, c3, c4, c5, c6, c7, c8, c9]
  | [c0, c1, c2, c3, c4, c5, c6, c7, c8, c9], _ => ⟨c0, c1, c2, c3, c4, c5, c6, c7, c8, c9, rfl⟩
theorem list_17 : ∀ {cs : List Value}, cs.length = 17 → ∃ c0 c1 c2 c3 c4 c5 c6 c7 c8 c9 c10 c11 c12 c13 c14 c15 c16, cs = [c0, c1, c2, c3, c4, c5, c6, c7, c8, c9, c10, c11, c12, c13, c14, c15, c16]
  | [c0, c1, c2, c3, c4, c5, c6, c7, c8, c9, c10, c11, c12, c13, c14, c15, c16], _ => ⟨c0, c1, c2, c3, c4, c5, c6, c7, c8, c9, c10, c11, c12, c13, c14, c15, c16, rfl⟩
theorem lim_of {n : Nat} (h : n ≤ 1048576) : n ≤ lim := by unfold lim; omega
section
variable {H : Type} {enc : TypeId × Value → H} {w : World} {base : Nat} {spare : Nat → Bool} {held : Bool} {fuel : Nat} {x : DataW H × List MemPlace}
theorem field_of {P : Program} {T : TypeId} {fs : Array Field} {cs : List Value} (ht : P.underlying T = some (.struct fs)) (h : DataW.trod enc P w base spare held fuel T cs = some x) (hb : Rows.uptoBulk x.1 ≤ 1048576) :
    cs.length = P.cellsOf T ∧ ∃ n, ∀ (i : Nat) (f : Field), fs[i]? = some f → ∃ y, DataW.trod enc P w base spare held n f.type ((cs.drop f.offset).take (P.cellsOf f.type)) = some y ∧ Rows.uptoBulk y.1 ≤ 1048576 := by
  obtain ⟨xs, n, _, hx, hlen, hxl, hf⟩ := DataW.trod_struct ht h
  refine ⟨hlen, n, fun i f hi => ?_⟩
  have hil : i < xs.length := by rw [hxl]; exact (Array.getElem?_eq_some_iff.1 hi).1
  refine ⟨xs[i], by rw [hf i f hi, List.getElem?_eq_getElem hil], ?_⟩
  rw [hx] at hb
  simp only [Rows.uptoBulk] at hb
  have := bulk_mem (d := xs[i].1) (l := xs.map (·.1)) (List.mem_map.2 ⟨xs[i], List.getElem_mem hil, rfl⟩)
  omega
theorem take_one {cs : List Value} {o : Nat} {c : Value} (h : cs[o]? = some c) : (cs.drop o).take 1 = [c] := by
  obtain ⟨ho, rfl⟩ := List.getElem?_eq_some_iff.1 h
  rw [List.drop_eq_getElem_cons ho]; rfl
theorem cellsStr : Tryz.prog.cellsOf 9 = 1 := by kernel_rfl
theorem cellsU8 : Tryz.prog.cellsOf 5 = 1 := by kernel_rfl
theorem cellsInt : Tryz.prog.cellsOf 3 = 1 := by kernel_rfl
theorem cellsU32 : Tryz.prog.cellsOf 28 = 1 := by kernel_rfl
theorem cellsPrin : Tryz.prog.cellsOf 25 = 2 := by kernel_rfl
theorem cellsKey : Tryz.prog.cellsOf 290 = 3 := by kernel_rfl
theorem cellsSet : Tryz.prog.cellsOf 88 = 5 := by kernel_rfl
theorem cellsEnt : Tryz.prog.cellsOf 32 = 17 := by kernel_rfl
theorem cellsPol : Tryz.prog.cellsOf 34 = 10 := by kernel_rfl
theorem cellsSl1 : Tryz.prog.cellsOf 23 = 1 := by kernel_rfl
theorem cellsSl2 : Tryz.prog.cellsOf 56 = 1 := by kernel_rfl
theorem cellsSl3 : Tryz.prog.cellsOf 26 = 1 := by kernel_rfl
theorem cellsSl4 : Tryz.prog.cellsOf 29 = 1 := by kernel_rfl
theorem cellsSl5 : Tryz.prog.cellsOf 86 = 1 := by kernel_rfl
theorem cellsSl6 : Tryz.prog.cellsOf 30 = 1 := by kernel_rfl
theorem read_str {v : Value} (h : DataW.trod enc Tryz.prog w base spare held fuel 9 [v] = some x) (hb : Rows.uptoBulk x.1 ≤ 1048576) : ∃ s : ByteArray, v = .string s ∧ s.size ≤ lim := by
  obtain ⟨s, hs, hx, _⟩ := DataW.trod_string Tryz.underlying9 h
  refine ⟨s, by simpa using hs, ?_⟩
  rw [hx] at hb
  simp [Rows.uptoBulk] at hb
  exact lim_of (by omega)
theorem read_int {v : Value} (h : DataW.trod enc Tryz.prog w base spare held fuel 3 [v] = some x) : ∃ n : Int, v = .int .i64 n := by
  obtain ⟨n, hs, _, _⟩ := DataW.trod_int Tryz.underlying3 h
  exact ⟨n, by simpa using hs⟩
theorem read_strs {v : Value} (h : DataW.trod enc Tryz.prog w base spare held fuel 23 [v] = some x) (hb : Rows.uptoBulk x.1 ≤ 1048576) : ∃ (s : Sl) (l : List ByteArray), v = .slice s.a l.length s.cap ∧ StrsAt w s.a l := by
  obtain ⟨s, n, hv, hn, hel⟩ := read_slice Tryz.underlying23 cellsStr (by omega) h hb
  obtain ⟨l, hl, hr⟩ := list_of (R := fun i (a : ByteArray) => ∃ b o, s.a = some ⟨b, o, none⟩ ∧ w.cell? ⟨b, o + i, none⟩ = some (.string a) ∧ a.size ≤ lim) (n := n) (fun i hi => by
    obtain ⟨b, o, cs, f', y, ha, hrow, ht, hby⟩ := hel i hi
    have hc := row?_cell hrow 0 (by omega)
    have hsz := row?_size hrow
    obtain ⟨c, hcs⟩ : ∃ c, cs.toList = [c] := by
      obtain ⟨l⟩ := cs
      match l, hsz with
      | [c], _ => exact ⟨c, rfl⟩
    rw [hcs] at ht
    obtain ⟨a, rfl, hs⟩ := read_str ht hby
    refine ⟨a, b, o, ha, ?_, hs⟩
    have e : cs[0]? = some (.string a) := by rw [← Array.getElem?_toList, hcs]; rfl
    rw [e] at hc
    simpa using hc)
  refine ⟨s, l, by rw [hl]; exact hv, by rw [hl]; exact lim_of hn, fun i hi => ?_⟩
  obtain ⟨b, o, h1, h2, h3⟩ := hr i l[i] (List.getElem?_eq_getElem hi)
  exact ⟨b, o, _, h1, h2, l[i], List.getElem?_eq_getElem hi, rfl, h3⟩
theorem read_prin {cs : List Value} (h : DataW.trod enc Tryz.prog w base spare held fuel 25 cs = some x) (hb : Rows.uptoBulk x.1 ≤ 1048576) : ∃ (s : Sl) (p : Prin), cs = (prinC s p).toList ∧ PrinAt w s p := by
  obtain ⟨hl, n, hf⟩ := field_of Tryz.underlying25 h hb
  rw [cellsPrin] at hl
  obtain ⟨c0, c1, rfl⟩ := list_2 hl
  obtain ⟨y0, t0, b0⟩ := hf 0 _ rfl
  replace t0 : DataW.trod enc Tryz.prog w base spare held n 23 (([c0, c1].drop 0).take (Tryz.prog.cellsOf 23)) = some y0 := t0
  rw [cellsSl1, take_one (c := c0) rfl] at t0
  obtain ⟨y1, t1, b1⟩ := hf 1 _ rfl
  replace t1 : DataW.trod enc Tryz.prog w base spare held n 9 (([c0, c1].drop 1).take (Tryz.prog.cellsOf 9)) = some y1 := t1
  rw [cellsStr, take_one (c := c1) rfl] at t1
  obtain ⟨s0, n0, rfl, hs0⟩ := read_strs t0 b0
  obtain ⟨n1, rfl, hs1⟩ := read_str t1 b1
  exact ⟨s0, ⟨n0, n1⟩, rfl, hs0, hs1⟩
theorem read_prins {v : Value} (h : DataW.trod enc Tryz.prog w base spare held fuel 26 [v] = some x) (hb : Rows.uptoBulk x.1 ≤ 1048576) : ∃ (s : Sl) (l : List Prin), v = .slice s.a l.length s.cap ∧ PrinsAt w s.a l := by
  obtain ⟨s, n, hv, hn, hel⟩ := read_slice Tryz.underlying26 cellsPrin (by omega) h hb
  obtain ⟨l, hl, hr⟩ := list_of (R := fun i (a : Prin) => ∃ b o t, s.a = some ⟨b, o, none⟩ ∧ row? w b (o + i * 2) 2 = some (prinC t a) ∧ PrinAt w t a) (n := n) (fun i hi => by
    obtain ⟨b, o, cs, f', y, ha, hrow, ht, hby⟩ := hel i hi
    obtain ⟨t, p, hcs, hp⟩ := read_prin ht hby
    exact ⟨p, b, o, t, ha, by rw [hrow, ← Array.toList_inj.1 hcs], hp⟩)
  refine ⟨s, l, by rw [hl]; exact hv, by rw [hl]; exact lim_of hn, fun i hi => ?_⟩
  obtain ⟨b, o, t, h1, h2, h3⟩ := hr i l[i] (List.getElem?_eq_getElem hi)
  exact ⟨b, o, _, h1, h2, l[i], t, List.getElem?_eq_getElem hi, rfl, h3⟩
theorem read_u8 {v : Value} (h : DataW.trod enc Tryz.prog w base spare held fuel 5 [v] = some x) : ∃ c : UInt8, v = .int .u8 c.toNat := by
  obtain ⟨n, hs, _, hw⟩ := DataW.trod_int Tryz.underlying5 h
  have hw' : 0 ≤ n ∧ n ≤ 255 := by
    simp only [Lit.wf, Bool.and_eq_true, decide_eq_true_eq] at hw
    exact ⟨hw.1, hw.2⟩
  refine ⟨UInt8.ofNat n.toNat, ?_⟩
  have e : ((UInt8.ofNat n.toNat).toNat : Int) = n := by
    have : n.toNat < 256 := by omega
    rw [UInt8.toNat_ofNat_of_lt' (by simpa using this)]; omega
  rw [e]; simpa using hs
theorem read_bytes {v : Value} (h : DataW.trod enc Tryz.prog w base spare held fuel 56 [v] = some x) (hb : Rows.uptoBulk x.1 ≤ 1048576) : ∃ (s : Sl) (l : List UInt8), v = .slice s.a l.length s.cap ∧ BytesAt w s.a l := by
  obtain ⟨s, n, hv, hn, hel⟩ := read_slice Tryz.underlying56 cellsU8 (by omega) h hb
  obtain ⟨l, hl, hr⟩ := list_of (R := fun i (a : UInt8) => ∃ b o v, s.a = some ⟨b, o, none⟩ ∧ w.cell? ⟨b, o + i, none⟩ = some v ∧ v = .int .u8 a.toNat) (n := n) (fun i hi => by
    obtain ⟨b, o, cs, f', y, ha, hrow, ht, hby⟩ := hel i hi
    have hc := row?_cell hrow 0 (by omega)
    obtain ⟨c, hcs⟩ := list_1 (cs := cs.toList) (by simpa using row?_size hrow)
    have e : cs[0]? = some c := by rw [← Array.getElem?_toList, hcs]; rfl
    rw [hcs] at ht
    rw [e] at hc
    obtain ⟨a, rfl⟩ := read_u8 ht
    exact ⟨a, b, o, _, ha, by simpa using hc, rfl⟩)
  refine ⟨s, l, by rw [hl]; exact hv, by rw [hl]; exact lim_of hn, fun i hi => ?_⟩
  obtain ⟨b, o, v, h1, h2, h3⟩ := hr i l[i] (List.getElem?_eq_getElem hi)
  exact ⟨b, o, v, h1, h2, l[i], List.getElem?_eq_getElem hi, h3⟩
theorem read_key {cs : List Value} (h : DataW.trod enc Tryz.prog w base spare held fuel 290 cs = some x) (hb : Rows.uptoBulk x.1 ≤ 1048576) : ∃ (s : Sl) (p : Key), cs = (keyC s p).toList ∧ KeyAt w s p := by
  obtain ⟨hl, n, hf⟩ := field_of Tryz.underlying290 h hb
  rw [cellsKey] at hl
  obtain ⟨c0, c1, c2, rfl⟩ := list_3 hl
  obtain ⟨y0, t0, b0⟩ := hf 0 _ rfl
  replace t0 : DataW.trod enc Tryz.prog w base spare held n 3 (([c0, c1, c2].drop 0).take (Tryz.prog.cellsOf 3)) = some y0 := t0
  rw [cellsInt, take_one (c := c0) rfl] at t0
  obtain ⟨y1, t1, b1⟩ := hf 1 _ rfl
  replace t1 : DataW.trod enc Tryz.prog w base spare held n 3 (([c0, c1, c2].drop 1).take (Tryz.prog.cellsOf 3)) = some y1 := t1
  rw [cellsInt, take_one (c := c1) rfl] at t1
  obtain ⟨y2, t2, b2⟩ := hf 2 _ rfl
  replace t2 : DataW.trod enc Tryz.prog w base spare held n 56 (([c0, c1, c2].drop 2).take (Tryz.prog.cellsOf 56)) = some y2 := t2
  rw [cellsSl2, take_one (c := c2) rfl] at t2
  obtain ⟨n0, rfl⟩ := read_int t0
  clear b0
  obtain ⟨n1, rfl⟩ := read_int t1
  clear b1
  obtain ⟨s2, n2, rfl, hs2⟩ := read_bytes t2 b2
  exact ⟨s2, ⟨n0, n1, n2⟩, rfl, hs2⟩
theorem read_keys {v : Value} (h : DataW.trod enc Tryz.prog w base spare held fuel 86 [v] = some x) (hb : Rows.uptoBulk x.1 ≤ 1048576) : ∃ (s : Sl) (l : List Key), v = .slice s.a l.length s.cap ∧ KeysAt w s.a l := by
  obtain ⟨s, n, hv, hn, hel⟩ := read_slice Tryz.underlying86 cellsKey (by omega) h hb
  obtain ⟨l, hl, hr⟩ := list_of (R := fun i (a : Key) => ∃ b o t, s.a = some ⟨b, o, none⟩ ∧ row? w b (o + i * 3) 3 = some (keyC t a) ∧ KeyAt w t a) (n := n) (fun i hi => by
    obtain ⟨b, o, cs, f', y, ha, hrow, ht, hby⟩ := hel i hi
    obtain ⟨t, p, hcs, hp⟩ := read_key ht hby
    exact ⟨p, b, o, t, ha, by rw [hrow, ← Array.toList_inj.1 hcs], hp⟩)
  refine ⟨s, l, by rw [hl]; exact hv, by rw [hl]; exact lim_of hn, fun i hi => ?_⟩
  obtain ⟨b, o, t, h1, h2, h3⟩ := hr i l[i] (List.getElem?_eq_getElem hi)
  exact ⟨b, o, _, h1, h2, l[i], t, List.getElem?_eq_getElem hi, rfl, h3⟩
theorem read_set {cs : List Value} (h : DataW.trod enc Tryz.prog w base spare held fuel 88 cs = some x) (hb : Rows.uptoBulk x.1 ≤ 1048576) : ∃ (s : Sl) (p : KeySet), cs = (setC s p).toList ∧ SetAt w s p := by
  obtain ⟨hl, n, hf⟩ := field_of Tryz.underlying88 h hb
  rw [cellsSet] at hl
  obtain ⟨c0, c1, c2, c3, c4, rfl⟩ := list_5 hl
  obtain ⟨y0, t0, b0⟩ := hf 0 _ rfl
  replace t0 : DataW.trod enc Tryz.prog w base spare held n 3 (([c0, c1, c2, c3, c4].drop 0).take (Tryz.prog.cellsOf 3)) = some y0 := t0
  rw [cellsInt, take_one (c := c0) rfl] at t0
  obtain ⟨y1, t1, b1⟩ := hf 1 _ rfl
  replace t1 : DataW.trod enc Tryz.prog w base spare held n 86 (([c0, c1, c2, c3, c4].drop 1).take (Tryz.prog.cellsOf 86)) = some y1 := t1
  rw [cellsSl5, take_one (c := c1) rfl] at t1
  obtain ⟨y2, t2, b2⟩ := hf 2 _ rfl
  replace t2 : DataW.trod enc Tryz.prog w base spare held n 9 (([c0, c1, c2, c3, c4].drop 2).take (Tryz.prog.cellsOf 9)) = some y2 := t2
  rw [cellsStr, take_one (c := c2) rfl] at t2
  obtain ⟨y3, t3, b3⟩ := hf 3 _ rfl
  replace t3 : DataW.trod enc Tryz.prog w base spare held n 3 (([c0, c1, c2, c3, c4].drop 3).take (Tryz.prog.cellsOf 3)) = some y3 := t3
  rw [cellsInt, take_one (c := c3) rfl] at t3
  obtain ⟨y4, t4, b4⟩ := hf 4 _ rfl
  replace t4 : DataW.trod enc Tryz.prog w base spare held n 3 (([c0, c1, c2, c3, c4].drop 4).take (Tryz.prog.cellsOf 3)) = some y4 := t4
  rw [cellsInt, take_one (c := c4) rfl] at t4
  obtain ⟨n0, rfl⟩ := read_int t0
  clear b0
  obtain ⟨s1, n1, rfl, hs1⟩ := read_keys t1 b1
  obtain ⟨n2, rfl, hs2⟩ := read_str t2 b2
  obtain ⟨n3, rfl⟩ := read_int t3
  clear b3
  obtain ⟨n4, rfl⟩ := read_int t4
  clear b4
  exact ⟨s1, ⟨n0, n1, n2, n3, n4⟩, rfl, hs1, hs2⟩
theorem read_sets {v : Value} (h : DataW.trod enc Tryz.prog w base spare held fuel 29 [v] = some x) (hb : Rows.uptoBulk x.1 ≤ 1048576) : ∃ (s : Sl) (l : List KeySet), v = .slice s.a l.length s.cap ∧ SetsAt w s.a l := by
  obtain ⟨s, n, hv, hn, hel⟩ := read_slice Tryz.underlying29 cellsSet (by omega) h hb
  obtain ⟨l, hl, hr⟩ := list_of (R := fun i (a : KeySet) => ∃ b o t, s.a = some ⟨b, o, none⟩ ∧ row? w b (o + i * 5) 5 = some (setC t a) ∧ SetAt w t a) (n := n) (fun i hi => by
    obtain ⟨b, o, cs, f', y, ha, hrow, ht, hby⟩ := hel i hi
    obtain ⟨t, p, hcs, hp⟩ := read_set ht hby
    exact ⟨p, b, o, t, ha, by rw [hrow, ← Array.toList_inj.1 hcs], hp⟩)
  refine ⟨s, l, by rw [hl]; exact hv, by rw [hl]; exact lim_of hn, fun i hi => ?_⟩
  obtain ⟨b, o, t, h1, h2, h3⟩ := hr i l[i] (List.getElem?_eq_getElem hi)
  exact ⟨b, o, _, h1, h2, l[i], t, List.getElem?_eq_getElem hi, rfl, h3⟩
theorem read_hist {v : Value} (h : DataW.trod enc Tryz.prog w base spare held fuel 30 [v] = some x) (hb : Rows.uptoBulk x.1 ≤ 1048576) : ∃ (s : Sl) (l : List (List UInt8)), v = .slice s.a l.length s.cap ∧ HistAt w s.a l := by
  obtain ⟨s, n, hv, hn, hel⟩ := read_slice Tryz.underlying30 cellsSl2 (by omega) h hb
  obtain ⟨l, hl, hr⟩ := list_of (R := fun i (a : (List UInt8)) => ∃ b o v, s.a = some ⟨b, o, none⟩ ∧ w.cell? ⟨b, o + i, none⟩ = some v ∧ ∃ s' : Sl, v = .slice s'.a a.length s'.cap ∧ BytesAt w s'.a a) (n := n) (fun i hi => by
    obtain ⟨b, o, cs, f', y, ha, hrow, ht, hby⟩ := hel i hi
    have hc := row?_cell hrow 0 (by omega)
    obtain ⟨c, hcs⟩ := list_1 (cs := cs.toList) (by simpa using row?_size hrow)
    have e : cs[0]? = some c := by rw [← Array.getElem?_toList, hcs]; rfl
    rw [hcs] at ht
    rw [e] at hc
    obtain ⟨s', a, rfl, hs'⟩ := read_bytes ht hby
    exact ⟨a, b, o, _, ha, by simpa using hc, s', rfl, hs'⟩)
  refine ⟨s, l, by rw [hl]; exact hv, by rw [hl]; exact lim_of hn, fun i hi => ?_⟩
  obtain ⟨b, o, v, h1, h2, h3⟩ := hr i l[i] (List.getElem?_eq_getElem hi)
  obtain ⟨s', h4, h5⟩ := h3
  exact ⟨b, o, v, h1, h2, l[i], s', List.getElem?_eq_getElem hi, h4, h5⟩
end
end Go.Proofs.YtidadlcknkeodaaGreatDoor
/- The reading of an entry and of a policy. Printed by wip/src/genread2.py. -/
namespace Go.Proofs.YtidadlcknkeodaaGreatDoor
open Go.ChangeShapes Go.WideShapes Go.ChangeAt Go.RowKit Go.WW Go.Deep
section
variable {H : Type} {enc : TypeId × Value → H} {w : World} {base : Nat} {spare : Nat → Bool} {held : Bool} {fuel : Nat} {x : DataW H × List MemPlace}
theorem read_u32 {v : Value} (h : DataW.trod enc Tryz.prog w base spare held fuel 28 [v] = some x) : ∃ n : Int, v = .int .u32 n ∧ 0 ≤ n ∧ n ≤ 4294967295 := by
  obtain ⟨n, hs, _, hw⟩ := DataW.trod_int Tryz.underlying28 h
  simp only [Lit.wf, Bool.and_eq_true, decide_eq_true_eq] at hw
  exact ⟨n, by simpa using hs, hw.1, hw.2⟩
theorem read_ent {cs : List Value} (h : DataW.trod enc Tryz.prog w base spare held fuel 32 cs = some x) (hb : Rows.uptoBulk x.1 ≤ 1048576) : ∃ (r : ERaw) (d : Entry), cs = (entC r d).toList ∧ EntAt w r d := by
  obtain ⟨hl, n, hf⟩ := field_of Tryz.underlying32 h hb
  rw [cellsEnt] at hl
  obtain ⟨c0, c1, c2, c3, c4, c5, c6, c7, c8, c9, c10, c11, c12, c13, c14, c15, c16, rfl⟩ := list_17 hl
  obtain ⟨y0, t0, b0⟩ := hf 0 _ rfl
  replace t0 : DataW.trod enc Tryz.prog w base spare held n 25 (([c0, c1, c2, c3, c4, c5, c6, c7, c8, c9, c10, c11, c12, c13, c14, c15, c16].drop 0).take (Tryz.prog.cellsOf 25)) = some y0 := t0
  rw [cellsPrin] at t0
  replace t0 : DataW.trod enc Tryz.prog w base spare held n 25 [c0, c1] = some y0 := t0
  obtain ⟨y1, t1, b1⟩ := hf 1 _ rfl
  replace t1 : DataW.trod enc Tryz.prog w base spare held n 26 (([c0, c1, c2, c3, c4, c5, c6, c7, c8, c9, c10, c11, c12, c13, c14, c15, c16].drop 2).take (Tryz.prog.cellsOf 26)) = some y1 := t1
  rw [cellsSl3, take_one (c := c2) rfl] at t1
  obtain ⟨y2, t2, b2⟩ := hf 2 _ rfl
  replace t2 : DataW.trod enc Tryz.prog w base spare held n 28 (([c0, c1, c2, c3, c4, c5, c6, c7, c8, c9, c10, c11, c12, c13, c14, c15, c16].drop 3).take (Tryz.prog.cellsOf 28)) = some y2 := t2
  rw [cellsU32, take_one (c := c3) rfl] at t2
  obtain ⟨y3, t3, b3⟩ := hf 3 _ rfl
  replace t3 : DataW.trod enc Tryz.prog w base spare held n 3 (([c0, c1, c2, c3, c4, c5, c6, c7, c8, c9, c10, c11, c12, c13, c14, c15, c16].drop 4).take (Tryz.prog.cellsOf 3)) = some y3 := t3
  rw [cellsInt, take_one (c := c4) rfl] at t3
  obtain ⟨y4, t4, b4⟩ := hf 4 _ rfl
  replace t4 : DataW.trod enc Tryz.prog w base spare held n 29 (([c0, c1, c2, c3, c4, c5, c6, c7, c8, c9, c10, c11, c12, c13, c14, c15, c16].drop 5).take (Tryz.prog.cellsOf 29)) = some y4 := t4
  rw [cellsSl4, take_one (c := c5) rfl] at t4
  obtain ⟨y5, t5, b5⟩ := hf 5 _ rfl
  replace t5 : DataW.trod enc Tryz.prog w base spare held n 9 (([c0, c1, c2, c3, c4, c5, c6, c7, c8, c9, c10, c11, c12, c13, c14, c15, c16].drop 6).take (Tryz.prog.cellsOf 9)) = some y5 := t5
  rw [cellsStr, take_one (c := c6) rfl] at t5
  obtain ⟨y6, t6, b6⟩ := hf 6 _ rfl
  replace t6 : DataW.trod enc Tryz.prog w base spare held n 3 (([c0, c1, c2, c3, c4, c5, c6, c7, c8, c9, c10, c11, c12, c13, c14, c15, c16].drop 7).take (Tryz.prog.cellsOf 3)) = some y6 := t6
  rw [cellsInt, take_one (c := c7) rfl] at t6
  obtain ⟨y7, t7, b7⟩ := hf 7 _ rfl
  replace t7 : DataW.trod enc Tryz.prog w base spare held n 3 (([c0, c1, c2, c3, c4, c5, c6, c7, c8, c9, c10, c11, c12, c13, c14, c15, c16].drop 8).take (Tryz.prog.cellsOf 3)) = some y7 := t7
  rw [cellsInt, take_one (c := c8) rfl] at t7
  obtain ⟨y8, t8, b8⟩ := hf 8 _ rfl
  replace t8 : DataW.trod enc Tryz.prog w base spare held n 3 (([c0, c1, c2, c3, c4, c5, c6, c7, c8, c9, c10, c11, c12, c13, c14, c15, c16].drop 9).take (Tryz.prog.cellsOf 3)) = some y8 := t8
  rw [cellsInt, take_one (c := c9) rfl] at t8
  obtain ⟨y9, t9, b9⟩ := hf 9 _ rfl
  replace t9 : DataW.trod enc Tryz.prog w base spare held n 3 (([c0, c1, c2, c3, c4, c5, c6, c7, c8, c9, c10, c11, c12, c13, c14, c15, c16].drop 10).take (Tryz.prog.cellsOf 3)) = some y9 := t9
  rw [cellsInt, take_one (c := c10) rfl] at t9
  obtain ⟨y10, t10, b10⟩ := hf 10 _ rfl
  replace t10 : DataW.trod enc Tryz.prog w base spare held n 3 (([c0, c1, c2, c3, c4, c5, c6, c7, c8, c9, c10, c11, c12, c13, c14, c15, c16].drop 11).take (Tryz.prog.cellsOf 3)) = some y10 := t10
  rw [cellsInt, take_one (c := c11) rfl] at t10
  obtain ⟨y11, t11, b11⟩ := hf 11 _ rfl
  replace t11 : DataW.trod enc Tryz.prog w base spare held n 3 (([c0, c1, c2, c3, c4, c5, c6, c7, c8, c9, c10, c11, c12, c13, c14, c15, c16].drop 12).take (Tryz.prog.cellsOf 3)) = some y11 := t11
  rw [cellsInt, take_one (c := c12) rfl] at t11
  obtain ⟨y12, t12, b12⟩ := hf 12 _ rfl
  replace t12 : DataW.trod enc Tryz.prog w base spare held n 3 (([c0, c1, c2, c3, c4, c5, c6, c7, c8, c9, c10, c11, c12, c13, c14, c15, c16].drop 13).take (Tryz.prog.cellsOf 3)) = some y12 := t12
  rw [cellsInt, take_one (c := c13) rfl] at t12
  obtain ⟨y13, t13, b13⟩ := hf 13 _ rfl
  replace t13 : DataW.trod enc Tryz.prog w base spare held n 26 (([c0, c1, c2, c3, c4, c5, c6, c7, c8, c9, c10, c11, c12, c13, c14, c15, c16].drop 14).take (Tryz.prog.cellsOf 26)) = some y13 := t13
  rw [cellsSl3, take_one (c := c14) rfl] at t13
  obtain ⟨y14, t14, b14⟩ := hf 14 _ rfl
  replace t14 : DataW.trod enc Tryz.prog w base spare held n 26 (([c0, c1, c2, c3, c4, c5, c6, c7, c8, c9, c10, c11, c12, c13, c14, c15, c16].drop 15).take (Tryz.prog.cellsOf 26)) = some y14 := t14
  rw [cellsSl3, take_one (c := c15) rfl] at t14
  obtain ⟨y15, t15, b15⟩ := hf 15 _ rfl
  replace t15 : DataW.trod enc Tryz.prog w base spare held n 30 (([c0, c1, c2, c3, c4, c5, c6, c7, c8, c9, c10, c11, c12, c13, c14, c15, c16].drop 16).take (Tryz.prog.cellsOf 30)) = some y15 := t15
  rw [cellsSl6, take_one (c := c16) rfl] at t15
  obtain ⟨s0, n0, e0, hs0⟩ := read_prin t0 b0
  obtain ⟨rfl, rfl⟩ : c0 = .slice s0.a n0.parts.length s0.cap ∧ c1 = .string n0.realm := by simpa [prinC] using e0
  obtain ⟨s1, n1, rfl, hs1⟩ := read_prins t1 b1
  obtain ⟨n2, rfl, hs2⟩ := read_u32 t2
  clear b2
  obtain ⟨n3, rfl⟩ := read_int t3
  clear b3
  obtain ⟨s4, n4, rfl, hs4⟩ := read_sets t4 b4
  obtain ⟨n5, rfl, hs5⟩ := read_str t5 b5
  obtain ⟨n6, rfl⟩ := read_int t6
  clear b6
  obtain ⟨n7, rfl⟩ := read_int t7
  clear b7
  obtain ⟨n8, rfl⟩ := read_int t8
  clear b8
  obtain ⟨n9, rfl⟩ := read_int t9
  clear b9
  obtain ⟨n10, rfl⟩ := read_int t10
  clear b10
  obtain ⟨n11, rfl⟩ := read_int t11
  clear b11
  obtain ⟨n12, rfl⟩ := read_int t12
  clear b12
  obtain ⟨s13, n13, rfl, hs13⟩ := read_prins t13 b13
  obtain ⟨s14, n14, rfl, hs14⟩ := read_prins t14 b14
  obtain ⟨s15, n15, rfl, hs15⟩ := read_hist t15 b15
  exact ⟨⟨s0, s1, s4, s13, s14, s15⟩, ⟨n0, n1, n2, n3, n4, n5, n6, n7, n8, n9, n10, n11, n12, n13, n14, n15⟩, rfl, ⟨hs0, hs1, hs4, hs13, hs14, hs15, hs5, hs2⟩⟩
theorem read_pol {cs : List Value} (h : DataW.trod enc Tryz.prog w base spare held fuel 34 cs = some x) (hb : Rows.uptoBulk x.1 ≤ 1048576) : ∃ p : Policy, cs = (polC p).toList ∧ p.name.size ≤ lim := by
  obtain ⟨hl, n, hf⟩ := field_of Tryz.underlying34 h hb
  rw [cellsPol] at hl
  obtain ⟨c0, c1, c2, c3, c4, c5, c6, c7, c8, c9, rfl⟩ := list_10 hl
  obtain ⟨y0, t0, b0⟩ := hf 0 _ rfl
  replace t0 : DataW.trod enc Tryz.prog w base spare held n 9 (([c0, c1, c2, c3, c4, c5, c6, c7, c8, c9].drop 0).take (Tryz.prog.cellsOf 9)) = some y0 := t0
  rw [cellsStr, take_one (c := c0) rfl] at t0
  obtain ⟨y1, t1, b1⟩ := hf 1 _ rfl
  replace t1 : DataW.trod enc Tryz.prog w base spare held n 3 (([c0, c1, c2, c3, c4, c5, c6, c7, c8, c9].drop 1).take (Tryz.prog.cellsOf 3)) = some y1 := t1
  rw [cellsInt, take_one (c := c1) rfl] at t1
  obtain ⟨y2, t2, b2⟩ := hf 2 _ rfl
  replace t2 : DataW.trod enc Tryz.prog w base spare held n 3 (([c0, c1, c2, c3, c4, c5, c6, c7, c8, c9].drop 2).take (Tryz.prog.cellsOf 3)) = some y2 := t2
  rw [cellsInt, take_one (c := c2) rfl] at t2
  obtain ⟨y3, t3, b3⟩ := hf 3 _ rfl
  replace t3 : DataW.trod enc Tryz.prog w base spare held n 3 (([c0, c1, c2, c3, c4, c5, c6, c7, c8, c9].drop 3).take (Tryz.prog.cellsOf 3)) = some y3 := t3
  rw [cellsInt, take_one (c := c3) rfl] at t3
  obtain ⟨y4, t4, b4⟩ := hf 4 _ rfl
  replace t4 : DataW.trod enc Tryz.prog w base spare held n 3 (([c0, c1, c2, c3, c4, c5, c6, c7, c8, c9].drop 4).take (Tryz.prog.cellsOf 3)) = some y4 := t4
  rw [cellsInt, take_one (c := c4) rfl] at t4
  obtain ⟨y5, t5, b5⟩ := hf 5 _ rfl
  replace t5 : DataW.trod enc Tryz.prog w base spare held n 3 (([c0, c1, c2, c3, c4, c5, c6, c7, c8, c9].drop 5).take (Tryz.prog.cellsOf 3)) = some y5 := t5
  rw [cellsInt, take_one (c := c5) rfl] at t5
  obtain ⟨y6, t6, b6⟩ := hf 6 _ rfl
  replace t6 : DataW.trod enc Tryz.prog w base spare held n 3 (([c0, c1, c2, c3, c4, c5, c6, c7, c8, c9].drop 6).take (Tryz.prog.cellsOf 3)) = some y6 := t6
  rw [cellsInt, take_one (c := c6) rfl] at t6
  obtain ⟨y7, t7, b7⟩ := hf 7 _ rfl
  replace t7 : DataW.trod enc Tryz.prog w base spare held n 3 (([c0, c1, c2, c3, c4, c5, c6, c7, c8, c9].drop 7).take (Tryz.prog.cellsOf 3)) = some y7 := t7
  rw [cellsInt, take_one (c := c7) rfl] at t7
  obtain ⟨y8, t8, b8⟩ := hf 8 _ rfl
  replace t8 : DataW.trod enc Tryz.prog w base spare held n 3 (([c0, c1, c2, c3, c4, c5, c6, c7, c8, c9].drop 8).take (Tryz.prog.cellsOf 3)) = some y8 := t8
  rw [cellsInt, take_one (c := c8) rfl] at t8
  obtain ⟨y9, t9, b9⟩ := hf 9 _ rfl
  replace t9 : DataW.trod enc Tryz.prog w base spare held n 3 (([c0, c1, c2, c3, c4, c5, c6, c7, c8, c9].drop 9).take (Tryz.prog.cellsOf 3)) = some y9 := t9
  rw [cellsInt, take_one (c := c9) rfl] at t9
  obtain ⟨n0, rfl, hs0⟩ := read_str t0 b0
  obtain ⟨n1, rfl⟩ := read_int t1
  clear b1
  obtain ⟨n2, rfl⟩ := read_int t2
  clear b2
  obtain ⟨n3, rfl⟩ := read_int t3
  clear b3
  obtain ⟨n4, rfl⟩ := read_int t4
  clear b4
  obtain ⟨n5, rfl⟩ := read_int t5
  clear b5
  obtain ⟨n6, rfl⟩ := read_int t6
  clear b6
  obtain ⟨n7, rfl⟩ := read_int t7
  clear b7
  obtain ⟨n8, rfl⟩ := read_int t8
  clear b8
  obtain ⟨n9, rfl⟩ := read_int t9
  clear b9
  exact ⟨⟨n0, n1, n2, n3, n4, n5, n6, n7, n8, n9⟩, rfl, hs0⟩
end
end Go.Proofs.YtidadlcknkeodaaGreatDoor
/- The reading of an update. -/
namespace Go.Proofs.YtidadlcknkeodaaGreatDoor
open Go.ChangeShapes Go.WideShapes Go.ChangeAt Go.RowKit Go.WW Go.Deep
theorem cut (cs : List Value) (o n : Nat) : cs.drop o = (cs.drop o).take n ++ cs.drop (o + n) := by
  have := (List.take_append_drop n (cs.drop o)).symm; rwa [List.drop_drop] at this
theorem cellsKind : Tryz.prog.cellsOf 22 = 1 := by kernel_rfl
theorem cellsUpd : Tryz.prog.cellsOf 36 = 37 := by kernel_rfl
theorem updOf_list (x : UpdD) (s : Sl) (r : ERaw) : (updOf x s r).toList = [.int .i64 x.i] ++ ([.int .i64 x.t] ++ ([.int .i64 x.m] ++ ([.int .i64 x.k] ++ ((prinC s x.n).toList ++ ((entC r x.d).toList ++ ((polC x.q).toList ++ ([.string x.pn] ++ ([.int .i64 x.f] ++ ([.int .i64 x.a] ++ [.int .i64 x.b]))))))))) := by
  simp [updOf, updC, prinC, entC, polC]
section
variable {H : Type} {enc : TypeId × Value → H} {w : World} {base : Nat} {spare : Nat → Bool} {held : Bool} {fuel : Nat} {x : DataW H × List MemPlace}
theorem read_intT {T : TypeId} {cs : List Value} (ht : Tryz.prog.underlying T = some (.int .i64)) (hl : cs.length = 1) (h : DataW.trod enc Tryz.prog w base spare held fuel T cs = some x) : ∃ n : Int, cs = [.int .i64 n] := by
  obtain ⟨c, rfl⟩ := list_1 hl
  obtain ⟨n, hs, _, _⟩ := DataW.trod_int ht h
  exact ⟨n, by simpa using hs⟩
theorem read_upd {cs : List Value} (h : DataW.trod enc Tryz.prog w base spare held fuel 36 cs = some x) (hb : Rows.uptoBulk x.1 ≤ 1048576) : ∃ (d : UpdD) (s : Sl) (r : ERaw), cs = (updOf d s r).toList ∧ UpdAt w s r d := by
  obtain ⟨hl, n, hf⟩ := field_of Tryz.underlying36 h hb
  rw [cellsUpd] at hl
  obtain ⟨y0, t0, _⟩ := hf 0 _ rfl
  obtain ⟨y1, t1, _⟩ := hf 1 _ rfl
  obtain ⟨y2, t2, _⟩ := hf 2 _ rfl
  obtain ⟨y3, t3, _⟩ := hf 3 _ rfl
  obtain ⟨y4, t4, b4⟩ := hf 4 _ rfl
  obtain ⟨y5, t5, b5⟩ := hf 5 _ rfl
  obtain ⟨y6, t6, b6⟩ := hf 6 _ rfl
  obtain ⟨y7, t7, b7⟩ := hf 7 _ rfl
  obtain ⟨y8, t8, _⟩ := hf 8 _ rfl
  obtain ⟨y9, t9, _⟩ := hf 9 _ rfl
  obtain ⟨y10, t10, _⟩ := hf 10 _ rfl
  replace t0 : DataW.trod enc Tryz.prog w base spare held n 3 ((cs.drop 0).take (Tryz.prog.cellsOf 3)) = some y0 := t0
  replace t1 : DataW.trod enc Tryz.prog w base spare held n 3 ((cs.drop 1).take (Tryz.prog.cellsOf 3)) = some y1 := t1
  replace t2 : DataW.trod enc Tryz.prog w base spare held n 3 ((cs.drop 2).take (Tryz.prog.cellsOf 3)) = some y2 := t2
  replace t3 : DataW.trod enc Tryz.prog w base spare held n 22 ((cs.drop 3).take (Tryz.prog.cellsOf 22)) = some y3 := t3
  replace t4 : DataW.trod enc Tryz.prog w base spare held n 25 ((cs.drop 4).take (Tryz.prog.cellsOf 25)) = some y4 := t4
  replace t5 : DataW.trod enc Tryz.prog w base spare held n 32 ((cs.drop 6).take (Tryz.prog.cellsOf 32)) = some y5 := t5
  replace t6 : DataW.trod enc Tryz.prog w base spare held n 34 ((cs.drop 23).take (Tryz.prog.cellsOf 34)) = some y6 := t6
  replace t7 : DataW.trod enc Tryz.prog w base spare held n 9 ((cs.drop 33).take (Tryz.prog.cellsOf 9)) = some y7 := t7
  replace t8 : DataW.trod enc Tryz.prog w base spare held n 3 ((cs.drop 34).take (Tryz.prog.cellsOf 3)) = some y8 := t8
  replace t9 : DataW.trod enc Tryz.prog w base spare held n 3 ((cs.drop 35).take (Tryz.prog.cellsOf 3)) = some y9 := t9
  replace t10 : DataW.trod enc Tryz.prog w base spare held n 3 ((cs.drop 36).take (Tryz.prog.cellsOf 3)) = some y10 := t10
  rw [cellsInt] at t0 t1 t2 t8 t9 t10
  rw [cellsKind] at t3
  rw [cellsPrin] at t4
  rw [cellsEnt] at t5
  rw [cellsPol] at t6
  rw [cellsStr] at t7
  obtain ⟨i0, e0⟩ := read_intT Tryz.underlying3 (by simp; omega) t0
  obtain ⟨i1, e1⟩ := read_intT Tryz.underlying3 (by simp; omega) t1
  obtain ⟨i2, e2⟩ := read_intT Tryz.underlying3 (by simp; omega) t2
  obtain ⟨i3, e3⟩ := read_intT Tryz.underlying22 (by simp; omega) t3
  obtain ⟨s, p, e4, hp⟩ := read_prin t4 b4
  obtain ⟨r, d, e5, he⟩ := read_ent t5 b5
  obtain ⟨q, e6, hq⟩ := read_pol t6 b6
  obtain ⟨c7, e7⟩ := list_1 (cs := (cs.drop 33).take 1) (by simp; omega)
  rw [e7] at t7
  obtain ⟨pn, rfl, hpn⟩ := read_str t7 b7
  obtain ⟨i8, e8⟩ := read_intT Tryz.underlying3 (by simp; omega) t8
  obtain ⟨i9, e9⟩ := read_intT Tryz.underlying3 (by simp; omega) t9
  obtain ⟨i10, e10⟩ := read_intT Tryz.underlying3 (by simp; omega) t10
  refine ⟨⟨i0, i1, i2, i3, i8, i9, i10, p, d, q, pn⟩, s, r, ?_, hp, he, hq, hpn⟩
  rw [updOf_list]
  have hz : cs = cs.drop 0 := rfl
  rw [hz, cut cs 0 1, cut cs 1 1, cut cs 2 1, cut cs 3 1, cut cs 4 2, cut cs 6 17, cut cs 23 10, cut cs 33 1, cut cs 34 1, cut cs 35 1, cut cs 36 1, e0, e1, e2, e3, e4, e5, e6, e7, e8, e9, e10]
  have : cs.drop (36 + 1) = [] := List.drop_eq_nil_of_le (by omega)
  rw [this, List.append_nil]
end
def updL (x : UpdD) (s : Sl) (r : ERaw) (i : Int) : List Value := (updOf x s r).toList ++ [.int .i64 i]
end Go.Proofs.YtidadlcknkeodaaGreatDoor
